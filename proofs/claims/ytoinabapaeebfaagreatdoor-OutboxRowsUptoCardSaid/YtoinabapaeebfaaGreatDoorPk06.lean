/- Contracts of package inbox (part 5): count, Len. · Contracts of package outbox (part 1): where an outbox lies; changes, says. · Contracts of package outbox (part 2): none, changes, says. -/
import Derived.Test.YtoinabapaeebfaaGreatDoorPk05
import Derived.Handy
import Derived.Test.YtoinabapaeebfaaGreatDoorPk04
set_option linter.unusedSimpArgs false
set_option linter.unusedVariables false
namespace Go.Proofs.YtoinabapaeebfaaGreatDoor
open Go.RowKit Go.Shelf
attribute [local go_sem] Oper.semAt_some

def CntI (w : World) (pre : List Int) (W : World) : Prop := Boxed W w.heap.size 3 (.int .i64 (pre.length : Int)) ∧ Below w.heap.size w W
set_option maxRecDepth 100000 in
set_option maxHeartbeats 1000000 in
theorem in_count (s : Nat) (W0 : Nat → Nat) (w : World) (B : Nat) (hs : Blk w s (setCells W0) 181) (hW0 : ∀ i, W0 i < 18446744073709551616) (hT : TzAt w) (hb : Boxed w B 178 (.pointer (some ⟨s, 0, none⟩))) :
    Calls Tryz.prog 170 #[.func (.func 190) #[] #[.pointer (some ⟨B, 0, none⟩)]] w fun e w' => e = .returned (.int .i64 (tot 1024 W0)) ∧ Below w.heap.size w w' := by
  have hBl := hb.lt
  have hsl := hs.lt
  have hTl := hT.lt
  refine calls_marks Tryz.func170 rfl ?_
  simp only [Tryz.ntmps170, List.size_toArray, List.length_cons, List.length_nil, Nat.reduceAdd, Nat.reduceSub, Array.replicate_succ, Array.replicate_zero, List.push_toArray, List.append_toArray, List.nil_append, List.cons_append]
  go_wp2_with fail
  generalize hWa : w.alloc (Obj.cells #[Value.int IntKind.i64 0] 3) = Wa
  have hsz : Wa.heap.size = w.heap.size + 1 := by rw [← hWa]; simp
  have hb0 : Below w.heap.size w Wa := by rw [← hWa]; exact (Below.refl _ w).alloc (Nat.le_refl _) _
  have hbx : Boxed Wa w.heap.size 3 (.int .i64 0) := by rw [← hWa]; exact Boxed.new w 3 (.int .i64 0)
  have HWa := hid hWa; clear hWa
  refine wp_range (α := Int) (gf := 190) (lb := #[.pointer (some ⟨B, 0, none⟩)]) rfl (enters_of Tryz.func190 (by kernel_rfl) rfl)
    (n₀ := 0) (L := [B, s, 1]) (M := []) (in_each1 s W0 Wa B (hs.below hb0) hW0 (hT.below hb0) (boxed_below hb hb0))
    (Nat.zero_le _) (by simp; omega) (by simp) (fun _ => rfl) (CntI w) (fun _ _ _ => False) ?hI ?hIx ?h0
    (fun pre x a' W => pre.length < 65536 ∧ a' = { tmps := #[.func (.func 190) #[] #[.pointer (some ⟨B, 0, none⟩)], undef, .int .i64 0, .pointer (some ⟨w.heap.size, 0, none⟩), .func (.func 190) #[] #[.pointer (some ⟨B, 0, none⟩)], .int .i64 x, undef, undef, undef], defers := [] }) ?hAx ?assign ?body ?done ?stop
  case hI =>
    rintro s' A A' ⟨g1, g2⟩ hw
    rw [hsz] at hw
    exact ⟨hw.boxed (by simp <;> omega) g1, g2.trans (hw.below g2.size (by simp <;> omega))⟩
  case hIx => exact fun _ _ _ _ h _ => h.elim
  case h0 => exact ⟨hbx, hb0⟩
  case hAx =>
    rintro pre x a' A A' ⟨hx, rfl⟩ hl hw
    exact ⟨hx, rfl⟩
  case assign =>
    intro pre x W K hl hi hx hK
    refine wpIn_skip ?_
    exact hK _ _ (Below.refl _ _) hi ⟨hx, by simp [encI]⟩
  case body =>
    rintro pre x a' W hl ⟨g1, g2⟩ ⟨hx, rfl⟩
    have c1 := g1.cell
    have f1 := g1.frozen
    have hwr : IntKind.i64.wrap ((pre.length : Int) + 1) = ((pre ++ [x]).length : Int) := by rw [IntKind.wrap_i64]; simp; omega
    gi_wp2
    refine ⟨Keep.setCell _ _ (by simp) (by simp <;> omega) _, ?_, g2.setCell (p := ⟨w.heap.size, 0, none⟩) (by simp) _⟩
    have := g1.set (.int .i64 ((pre ++ [x]).length : Int))
    simpa using this
  case done =>
    rintro xs W hS ⟨g1, g2⟩ hl hD
    have c1 := g1.cell
    go_wp2
    refine ret_mark (v := .int .i64 (tot 1024 W0)) hD (fun w' hw' => ?_)
    have wp : Wrote [Wa.heap.size] W w' := by rw [hw']; exact Wrote.putObj _ _ (by simp) _
    have d4 := (wp.boxed (by simp; omega) g1).cell
    exact ⟨by simp [results, Tryz.results170, go_sem, d4], rfl, g2.trans (wp.below g2.size (by simp; omega))⟩
  case stop => exact fun _ _ _ _ h _ _ => h.elim

theorem Inb.below {w w' : World} {b s : Nat} {most : Int} {W : Nat → Nat} (h : Inb w b s most W) (hb : Below w.heap.size w w') : Inb w' b s most W := ⟨h.box.below hb, h.set.below hb⟩

set_option maxRecDepth 100000 in
set_option maxHeartbeats 400000 in
theorem in_Len (b s : Nat) (most : Int) (W : Nat → Nat) (ids : List Nat) (w : World) (hI : Inb w b s most W) (hS : SetIs W ids) (hT : TzAt w) :
    Calls Tryz.prog 112 #[.pointer (some ⟨b, 0, none⟩)] w fun e w' => e = .returned (.int .i64 ids.length) ∧ Below w.heap.size w w' := by
  have CN := in_none w b s most hI.at
  have k0 := hI.at.set
  have CE := in_each s w
  have CC := in_count s W (w.alloc (.cells #[.pointer (some ⟨s, 0, none⟩)] 178)) w.heap.size (hI.set.alloc _) hS.lt (hT.below ((Below.refl _ w).alloc (Nat.le_refl _) _)) (Boxed.new w 178 (.pointer (some ⟨s, 0, none⟩)))
  rw [hS.tot] at CC
  go_enter Tryz.func112, Tryz.ntmps112
  go_wp2_with (first
    | (go_at_call 109; refine CN.mono ?_; rintro e w1 ⟨rfl, rfl⟩)
    | (go_at_call 127; refine CE.mono ?_; rintro e w1 ⟨rfl, rfl⟩)
    | (go_at_call 170; refine CC.mono ?_; rintro e w1 ⟨rfl, hb⟩))
  go_ret
  exact ⟨rfl, ((Below.refl _ w).alloc (Nat.le_refl _) _).trans (hb.mono (by simp))⟩

/-- What a coming, or a going, leaves. -/
structure InPost (b s : Nat) (most : Int) (W : Nat → Nat) (ids : List Nat) (w' : World) : Prop where
  inb : Inb w' b s most W
  set : SetIs W ids

set_option maxRecDepth 100000 in
set_option maxHeartbeats 400000 in
/-- One that is fresh comes. -/
theorem in_Come (b s : Nat) (most : Int) (W : Nat → Nat) (ids : List Nat) (z : Int) (w : World) (hI : Inb w b s most W) (hS : SetIs W ids) (hT : TzAt w) (h0 : 1 ≤ z) (h1 : z ≤ 65535) (hg : s ≠ 1) (hnot : z.toNat ∉ ids) (hl : (ids.length : Int) < most) :
    Calls Tryz.prog 54 #[.pointer (some ⟨b, 0, none⟩), .int .i64 z] w fun e w' => e = .returned (.tuple #[.bool true, .int .i64 0]) ∧ Inb w' b s most (tog W z.toNat) ∧ Wrote [s] w w' := by
  have CN := in_none w b s most hI.at
  have CM := in_may z w
  have hm : mayI z = true := by simp [mayI, h0, h1]
  rw [hm] at CM
  have CH := in_Has b s most W ids z w hI hS h0 h1
  have hd : decide (z.toNat ∈ ids) = false := decide_eq_false hnot
  rw [hd] at CH
  obtain ⟨n, hn⟩ : ∃ n : Int, (ids.length : Int) = n := ⟨_, rfl⟩
  have CL := hid fun (w1 : World) (hb : Below w.heap.size w w1) => in_Len b s most W ids w1 (hI.below hb) hS (hT.below hb)
  rw [hn] at CL
  have CT := hid fun (w1 : World) (hI : Inb w1 b s most W) => in_turn b s most W z w1 hI hS.lt h0 h1
  have kd : decide (most ≤ n) = false := decide_eq_false (by omega)
  clear hd hn hl
  go_enter Tryz.func54, Tryz.ntmps54
  go_wp2
  refine wp_scope_straight ?_
  go_wp2_with (first
    | (go_at_call 109; refine CN.mono ?_; rintro e w1 ⟨rfl, rfl⟩)
    | (go_at_call 110; refine CM.mono ?_; rintro e w1 ⟨rfl, rfl⟩)
    | (go_at_call 111; refine CH.mono ?_; rintro e w1 ⟨rfl, hb⟩))
  have kb : w1.cell? ⟨b, 1, none⟩ = some (.int .i64 most) := (hI.below hb).at.most
  clear CH CM CN
  refine regionQ [(1000, fun w' => w'.cell? ⟨b, 1, none⟩ = some (.int .i64 most))] (by kernel_rfl) ⟨by go_simp, trivial⟩ fun KQ hKQ => ?_
  refine takeQ 0 rfl (by kernel_rfl) rfl (by kernel_rfl) fun K hK => ?_
  simp only [List.getElem_toArray, List.getElem_cons_zero, List.getElem_cons_succ]
  go_big_quiet_op
  refine hK _ ?_
  clear hK K
  refine takeQ 2 rfl (by kernel_rfl) rfl (by kernel_rfl) fun K hK => ?_
  simp only [List.getElem_toArray, List.getElem_cons_zero, List.getElem_cons_succ]
  go_big_quiet_op
  refine hK _ ?_
  clear hK K
  refine nilQ 3 rfl (by kernel_rfl) (by kernel_rfl) rfl rfl ?_
  simp only [Act.put, List.getElem_toArray, List.getElem_cons_zero, List.getElem_cons_succ, List.setIfInBounds_toArray, List.set_cons_zero, List.set_cons_succ]
  refine takeQ 4 rfl (by kernel_rfl) rfl (by kernel_rfl) fun K hK => ?_
  simp only [List.getElem_toArray, List.getElem_cons_zero, List.getElem_cons_succ]
  go_big_quiet_op
  refine hK _ ?_
  clear hK K
  refine loadQ 5 rfl (by kernel_rfl) (by kernel_rfl) rfl rfl 0 rfl (by kernel_rfl) _ (fun w' hf => by (go_simp <;> with_reducible rfl)) ?_
  simp only [Act.put, List.getElem_toArray, List.getElem_cons_zero, List.getElem_cons_succ, List.setIfInBounds_toArray, List.set_cons_zero, List.set_cons_succ]
  refine stepQ 1 rfl (by kernel_rfl) (by decide) (by kernel_rfl) fun K hK => ?_
  simp only [List.getElem_toArray, List.getElem_cons_zero, List.getElem_cons_succ]
  go_simp
  refine (CL.out _ hb.drew).mono ?_
  rintro e w2 ⟨rfl, hb2⟩
  replace hb2 := hb.trans ((undrew hb2).mono hb.size)
  refine hK _ _ ⟨⟨fun _ => (hI.below hb2).at.most, trivial⟩, ?_⟩
  clear hK K
  refine takeQ 6 rfl (by kernel_rfl) rfl (by kernel_rfl) fun K hK => ?_
  simp only [List.getElem_toArray, List.getElem_cons_zero, List.getElem_cons_succ]
  go_big_quiet_op
  refine hK _ ?_
  clear hK K
  refine doneQ (by kernel_rfl) (hKQ.out _ _ ?_)
  clear hKQ KQ
  go_wp2_with (go_at_call 113; refine (CT.out _ (hI.below hb2)).mono ?_; rintro e w3 ⟨rfl, hi3, hw3⟩)
  simp only [Exit.noGoto_ret]
  go_returns
  exact ⟨rfl, hi3, (Wrote.of_below hb2).trans hw3⟩

set_option maxRecDepth 100000 in
set_option maxHeartbeats 400000 in
/-- One that is there goes. -/
theorem in_Go (b s : Nat) (most : Int) (W : Nat → Nat) (ids : List Nat) (z : Int) (w : World) (hI : Inb w b s most W) (hS : SetIs W ids) (h0 : 1 ≤ z) (h1 : z ≤ 65535) (hin : z.toNat ∈ ids) :
    Calls Tryz.prog 193 #[.pointer (some ⟨b, 0, none⟩), .int .i64 z] w fun e w' => e = .returned (.tuple #[.bool true, .int .i64 0]) ∧ Inb w' b s most (tog W z.toNat) ∧ Wrote [s] w w' := by
  have CN := in_none w b s most hI.at
  have CM := in_may z w
  have hm : mayI z = true := by simp [mayI, h0, h1]
  rw [hm] at CM
  have CH := in_Has b s most W ids z w hI hS h0 h1
  have hd : decide (z.toNat ∈ ids) = true := decide_eq_true hin
  rw [hd] at CH
  have CT := hid fun (w1 : World) (hI : Inb w1 b s most W) => in_turn b s most W z w1 hI hS.lt h0 h1
  clear hd
  go_enter Tryz.func193, Tryz.ntmps193
  go_wp2_with (first
    | (go_at_call 109; refine CN.mono ?_; rintro e w1 ⟨rfl, rfl⟩)
    | (go_at_call 110; refine CM.mono ?_; rintro e w1 ⟨rfl, rfl⟩)
    | (go_at_call 111; refine CH.mono ?_; rintro e w1 ⟨rfl, hb⟩)
    | (go_at_call 113; refine (CT.out _ (hI.below hb)).mono ?_; rintro e w3 ⟨rfl, hi3, hw3⟩))
  go_returns
  exact ⟨rfl, hi3, (Wrote.of_below hb).trans hw3⟩
end Go.Proofs.YtoinabapaeebfaaGreatDoor
namespace Go.Proofs.YtoinabapaeebfaaGreatDoor
open Go.RowKit Go.Shelf

/-! ### Words on memory, no program in sight -/

/-- What was written are blocks of cells of one type. -/
structure WT (T : TypeId) (w w' : World) : Prop where
  size : w.heap.size ≤ w'.heap.size
  block : ∀ k, k < w.heap.size → (∀ cs f, w.heap[k]? ≠ some (.cells cs T f)) → w'.heap[k]? = w.heap[k]?
theorem WT.of_below {T : TypeId} {w w' : World} (h : Below w.heap.size w w') : WT T w w' := ⟨h.size, fun k hk _ => h.block k hk⟩
theorem WT.set {T : TypeId} {w : World} {b : Nat} {cs : Array Value} (h : Blk w b cs T) (j : Nat) (v : Value) : WT T w (w.setCell ⟨b, j, none⟩ v) :=
  ⟨by simp [World.setCell], fun k _ hn => Below.heap_setCell _ _ _ _ (fun e => hn cs (0, 0) (by rw [e]; exact h))⟩
theorem WT.row {base : Nat} {e : TypeId} {size : Nat} {v : Value} {n : Nat} {xs : List Value} {w w' : World} (h : w.ownsRow base e size v n xs) (hg : w.grownBy w' v.ownBlock) : WT e w w' :=
  ⟨hg.size, fun k hk hn => hg.block k hk (fun he => by
    obtain ⟨_, ⟨rfl, _⟩ | ⟨g, cap, cur, rfl, _, hh, _⟩⟩ := h
    · simp [Value.ownBlock] at he
    · simp only [Value.ownBlock, Option.some.injEq] at he
      exact hn cur (0, 0) (by rw [he]; exact hh))⟩
theorem Blk.wt {T T' : TypeId} {w w' : World} {b : Nat} {cs : Array Value} (h : Blk w b cs T') (hw : WT T w w') (ht : T' ≠ T) : Blk w' b cs T' :=
  h.keep (hw.block b h.lt (fun cs' f he => by unfold Blk at h; rw [h] at he; cases he; exact ht rfl))
theorem row_wt {T e : TypeId} {w w' : World} {base : Nat} {size : Nat} {v : Value} {n : Nat} {xs : List Value} (h : w.ownsRow base e size v n xs) (hw : WT T w w') (ht : e ≠ T) : w'.ownsRow base e size v n xs := by
  obtain ⟨hl, hx | ⟨g, cap, cur, rfl, hb, hh, hx⟩⟩ := h
  · exact ⟨hl, .inl hx⟩
  · exact ⟨hl, .inr ⟨g, cap, cur, rfl, hb, (Blk.wt (b := g) hh hw ht), hx⟩⟩

/-- The block of a slice value. -/
def blk (v : Value) : List Nat := v.ownBlock.toList
theorem mem_blk {v : Value} {k : Nat} : k ∈ blk v ↔ v.ownBlock = some k := by simp [blk]

/-- What stays of a frame: the blocks of F alone are written, F' is F and what is new. -/
structure Stp (F F' : List Nat) (w w' : World) : Prop where
  wrote : Wrote F w w'
  sub : ∀ x ∈ F', x ∈ F ∨ w.heap.size ≤ x
theorem Stp.refl (F : List Nat) (w : World) : Stp F F w w := ⟨Wrote.refl _ _, fun _ h => .inl h⟩
theorem Stp.trans {F F' F'' : List Nat} {a b c : World} (h : Stp F F' a b) (k : Stp F' F'' b c) : Stp F F'' a c :=
  ⟨⟨k.wrote.os.trans h.wrote.os, k.wrote.tape.trans h.wrote.tape, k.wrote.output.trans h.wrote.output, Nat.le_trans h.wrote.size k.wrote.size, fun i hi hm =>
    (k.wrote.block i (Nat.lt_of_lt_of_le hi h.wrote.size) (fun hx => (h.sub i hx).elim hm (fun hg => by omega))).trans (h.wrote.block i hi hm)⟩,
   fun x hx => (k.sub x hx).elim (h.sub x) (fun hg => .inr (Nat.le_trans h.wrote.size hg))⟩
theorem Stp.below {F : List Nat} {a b : World} (h : Below a.heap.size a b) : Stp F F a b := ⟨Wrote.of_below h, fun _ h => .inl h⟩
theorem Stp.size {F F' : List Nat} {a b : World} (h : Stp F F' a b) : a.heap.size ≤ b.heap.size := h.wrote.size
theorem Stp.not {F F' : List Nat} {a b : World} (h : Stp F F' a b) {x : Nat} (hx : x ∉ F) (hl : x < a.heap.size) : x ∉ F' := fun hm => (h.sub x hm).elim hx (fun hg => by omega)

section
variable {P : Program} {w : World} {t e : TypeId} {z : Value} {size bytes : Nat}
theorem run_append2 (ty : TypeId) (E : ElemT P t e z size bytes) (hsz : 0 < size) (base : Nat) (v : Value) (n : Nat) (xs : List Value) (hown : w.ownsRow base e size v n xs)
    (a : Addr) (news : List Value) (hl : news.length = size) (hnews : ∀ j u, news[j]? = some u → w.cell? (a.add j) = some u) (h1 : ∀ u ∈ news, u.oneCell' = true)
    (h63 : n < 100000000) (hbytes : (n + 1) * bytes ≤ 140737488355328) (hbase : base ≤ w.heap.size) :
    ∃ v' w', (Builtin.append_ #[t, t] ty #[v, .slice (some a) 1 1]).run P w = .ok v' w' ∧ w'.ownsRow base e size v' (n + 1) (xs ++ news) ∧ w.grownBy w' v.ownBlock ∧ (∀ k, v'.ownBlock = some k → v.ownBlock = some k ∨ w.heap.size ≤ k) := by
  obtain ⟨i, hi, hz0, hz1, hz2⟩ := info_parts E.info
  have hl' : news.length = 1 * size := by omega
  have hm : n + 1 ≤ maxLen := by unfold maxLen; omega
  obtain ⟨v', w', hr, h2, h3, _⟩ := run_append_own (P := P) w base t ty e i z size bytes E.ht hi hz0 hz1 hz2 E.hzs hsz v n xs hown a 1 1 news hl' hnews h1 hm hbytes hbase
  refine ⟨v', w', hr, h2, h3, fun k hk => ?_⟩
  have hl2 : news.length = 1 * i.size := by rw [hz1]; exact hl'
  rcases hown.2 with ⟨rfl, rfl⟩ | ⟨g, cap, cur, rfl, hbg, hg, hnc, hcm, hcs, htake⟩
  · have hr2 := run_append_nil (P := P) w t ty e i z E.ht hi hz0 a 1 1 news hl2 hnews (by omega) (by omega) (by rw [hz2]; simp at hbytes; omega)
    rw [hr] at hr2
    cases hr2
    simp [Value.ownBlock] at hk
    exact .inr (by omega)
  · by_cases hroom : n + 1 ≤ cap
    · have hfit : n * i.size + news.length ≤ cur.size := by rw [hl', hcs, hz1, ← Nat.add_mul]; exact Nat.mul_le_mul_right _ hroom
      have hr2 := run_append_room (P := P) w t ty e i E.ht hi g n cap cur hg a 1 1 news hl2 hnews h1 hroom hfit
      rw [hr] at hr2
      cases hr2
      exact .inl hk
    · have holds : ∀ j u, xs[j]? = some u → w.cell? ((⟨g, 0, none⟩ : Addr).add j) = some u := hown.cells (g := g) rfl
      have hr2 := run_append_grow (P := P) w t ty e i z E.ht hi hz0 ⟨g, 0, none⟩ n cap xs (by rw [hz1]; exact hown.1) holds a 1 1 news hl2 hnews (by omega) (by unfold maxLen at hm; omega) (growslice_fits (by omega) (by rw [hz2]; exact hbytes))
      rw [hr] at hr2
      cases hr2
      simp [Value.ownBlock] at hk
      exact .inr (by omega)

/-- 'append(own, one)', the one in a block of its own. -/
theorem append_grp {ops : Array Oper} {rest : List Oper} {o : Oper} {a : Act} {Q : Exit → Act → World → Prop} (hgd : o.guard = none) (s x : Operand)
    (ho : o.op = .call { callee := .builtin .append, args := #[s, x], argTypes := #[t, t] }) (E : ElemT P t e z size bytes) (hsz : 0 < size)
    (base : Nat) (v : Value) (n : Nat) (xs : List Value) (hs : a.eval s = v) (hown : w.ownsRow base e size v n xs) (g : Nat) (news : List Value) (T : TypeId) (hx : a.eval x = .slice (some ⟨g, 0, none⟩) 1 1) (hg : Blk w g news.toArray T) (hl : news.length = size) (h1 : ∀ u ∈ news, u.oneCell' = true)
    (h63 : n < 100000000) (hbytes : (n + 1) * bytes ≤ 140737488355328) (hbase : base ≤ w.heap.size)
    (h : ∀ v' w', w'.ownsRow base e size v' (n + 1) (xs ++ news) → w.grownBy w' v.ownBlock → (∀ k, v'.ownBlock = some k → v.ownBlock = some k ∨ w.heap.size ≤ k) → wpList P ops Q rest (a.put o.dst v') w') : wpList P ops Q (o :: rest) a w := by
  refine wpList_plain hgd fun K hK => ?_
  obtain ⟨v', w', hr, h2, h3, h4⟩ := run_append2 (P := P) (w := w) o.type E hsz base v n xs hown ⟨g, 0, none⟩ news hl (fun j u hj => by
    have := hg.cell j
    simp only [List.getElem?_toArray] at this
    rw [hj] at this
    by_cases h0 : j = 0
    · subst h0; simpa [Addr.add] using this
    · simpa [Addr.add, h0] using this) h1 h63 hbytes hbase
  unfold Oper.wp execOp
  simp only [ho, resolve, invoke, builtin, Sem.run_bind, Sem.run_pure, Result.andThen_ok, List.map_toArray, List.map_cons, List.map_nil, hs, hx, hr]
  exact hK _ _ (h v' w' h2 h3 h4)
end

/-! ### An outbox -/
structure PackV where
  kind : Int
  dup : Bool
  retain : Bool
  qos : Int
  topic : List UInt8
  body : List UInt8
  id : Int
def PackV.cells (p : PackV) : List Value := [.int .i64 p.kind, .bool p.dup, .bool p.retain, .int .i64 p.qos, .string ⟨p.topic.toArray⟩, .string ⟨p.body.toArray⟩, .int .i64 p.id, .string ⟨#[]⟩, .bool false, .int .i64 0, .bool false,
  .string ⟨#[]⟩, .string ⟨#[]⟩, .int .i64 0, .bool false, .bool false, .bool false, .string ⟨#[]⟩, .string ⟨#[]⟩, .bool false, .int .i64 0, .slice none 0 0, .slice none 0 0, .slice none 0 0]
structure ChangeV where
  drop : Bool
  row : RowV
def ChangeV.cells (c : ChangeV) : List Value := .bool c.drop :: c.row.vals.toList

theorem ePack : ElemT Tryz.prog 35 81 (.agg (PackV.cells ⟨0, false, false, 0, [], [], 0⟩).toArray) 24 280 := ⟨Tryz.underlying35, by kernel_rfl, by kernel_rfl⟩
theorem eChg : ElemT Tryz.prog 36 115 (.agg (ChangeV.cells ⟨false, ⟨0, [], 0, 0, [], [], 0, false, 0⟩⟩).toArray) 10 104 := ⟨Tryz.underlying36, by kernel_rfl, by kernel_rfl⟩
theorem eRowP : ElemT Tryz.prog 121 126 (.pointer none) 1 8 := ⟨Tryz.underlying121, by kernel_rfl, by kernel_rfl⟩

/-- An outbox, as the document has it. -/
structure OS where
  client : List UInt8
  window : Int
  room : Int
  seq : Int
  id : Int
  l : List RowV
def idsOf (l : List RowV) : List Nat := (l.filter fun r => decide (r.stage ≠ 1)).map fun r => r.id.toNat
/-- What always holds of it. -/
structure OS.OK (s : OS) : Prop where
  win : 1 ≤ s.window ∧ s.window ≤ 100
  room : s.room ≤ 1000 ∧ (s.l.length : Int) ≤ s.room
  seq : 0 ≤ s.seq ∧ s.seq ≤ 4611686018427387905
  id : 1 ≤ s.id ∧ s.id ≤ 65535
  cl : s.client.length ≤ 23
  ids : ∀ r ∈ s.l, r.stage ≠ 1 → 1 ≤ r.id ∧ r.id ≤ 65535
  nodup : (idsOf s.l).Nodup
  under : ((idsOf s.l).length : Int) ≤ s.window

structure Lay where
  p : Nat
  ib : Nat
  sb : Nat
  vl : Value
  vp : Value
  vc : Value
  rb : List Nat
  W : Nat → Nat
def Lay.foot (L : Lay) : List Nat := L.p :: L.ib :: L.sb :: (blk L.vl ++ blk L.vp ++ blk L.vc ++ L.rb)
def ptrs (rb : List Nat) : List Value := rb.map fun b => .pointer (some ⟨b, 0, none⟩)
def boxCells (L : Lay) (s : OS) : Array Value := #[.pointer (some ⟨L.ib, 0, none⟩), .string ⟨s.client.toArray⟩, .int .i64 s.window, .int .i64 s.room, .int .i64 s.seq, .int .i64 s.id, L.vl, L.vp, L.vc]

structure OB (w : World) (B : Nat) (L : Lay) (s : OS) (ps : List PackV) (cs : List ChangeV) : Prop where
  base : B ≤ w.heap.size
  box : Blk w L.p (boxCells L s) 123
  inb : Inb w L.ib L.sb 100 L.W
  set : SetIs L.W (idsOf s.l)
  rows : w.ownsRow 0 126 1 L.vl s.l.length (ptrs L.rb)
  len : L.rb.length = s.l.length
  cells : ∀ (i b : Nat) (r : RowV), L.rb[i]? = some b → s.l[i]? = some r → Blk w b r.vals 33
  nodup : L.rb.Nodup
  packs : w.ownsRow B 81 24 L.vp ps.length (ps.flatMap PackV.cells)
  chgs : w.ownsRow B 115 10 L.vc cs.length (cs.flatMap ChangeV.cells)
  tz : TzAt w
  gg : 1 ∉ L.foot
  ok : s.OK

theorem OB.below {w w' : World} {B : Nat} {L : Lay} {s : OS} {ps : List PackV} {cs : List ChangeV} (h : OB w B L s ps cs) (hb : Below w.heap.size w w') : OB w' B L s ps cs :=
  ⟨Nat.le_trans h.base hb.size, h.box.below hb, h.inb.below hb, h.set, ownsRow_below h.rows hb, h.len, fun i b r h1 h2 => (h.cells i b r h1 h2).below hb, h.nodup, ownsRow_below h.packs hb, ownsRow_below h.chgs hb, h.tz.below hb, h.gg, h.ok⟩
theorem OB.alloc {w : World} {B : Nat} {L : Lay} {s : OS} {ps : List PackV} {cs : List ChangeV} (h : OB w B L s ps cs) (o : Obj) : OB (w.alloc o) B L s ps cs := h.below ((Below.refl _ _).alloc (Nat.le_refl _) o)
theorem OB.drew {w : World} {B : Nat} {L : Lay} {s : OS} {ps : List PackV} {cs : List ChangeV} (h : OB w B L s ps cs) : OB w.drew B L s ps cs := h.below (Below.refl _ w).drew

/-- All blocks of its foot are there. -/
theorem blk_lt {w : World} {base : Nat} {e : TypeId} {size : Nat} {v : Value} {n : Nat} {xs : List Value} (h : w.ownsRow base e size v n xs) {x : Nat} (hx : x ∈ blk v) : x < w.heap.size := (h.lt x (mem_blk.1 hx)).2
theorem OB.lt {w : World} {B : Nat} {L : Lay} {s : OS} {ps : List PackV} {cs : List ChangeV} (h : OB w B L s ps cs) : ∀ x ∈ L.foot, x < w.heap.size := by
  intro x hx
  simp only [Lay.foot, List.mem_cons, List.mem_append] at hx
  rcases hx with rfl | rfl | rfl | ((hx | hx) | hx) | hx
  · exact h.box.lt
  · exact h.inb.box.lt
  · exact h.inb.set.lt
  · exact blk_lt h.rows hx
  · exact blk_lt h.packs hx
  · exact blk_lt h.chgs hx
  · obtain ⟨i, hi⟩ := List.getElem?_of_mem hx
    have hlt := (List.getElem?_eq_some_iff.1 hi).1
    rw [h.len] at hlt
    exact (h.cells i x _ hi (List.getElem?_eq_getElem hlt)).lt
end Go.Proofs.YtoinabapaeebfaaGreatDoor
namespace Go.Proofs.YtoinabapaeebfaaGreatDoor
open Go.RowKit Go.Shelf

theorem flatMap_snoc {α : Type} (l : List α) (x : α) (f : α → List Value) : (l ++ [x]).flatMap f = l.flatMap f ++ f x := by simp

theorem own_slice {w : World} {base : Nat} {e : TypeId} {size : Nat} {v : Value} {n : Nat} {xs : List Value} (h : w.ownsRow base e size v n xs) : ∃ a cap, v = .slice a n cap := by
  obtain ⟨_, ⟨rfl, rfl⟩ | ⟨g, cap, cur, rfl, _⟩⟩ := h
  · exact ⟨_, _, rfl⟩
  · exact ⟨_, _, rfl⟩
theorem ChangeV.one (c : ChangeV) : ∀ u ∈ c.cells, u.oneCell' = true := by simp [ChangeV.cells, RowV.vals, Value.oneCell']
theorem PackV.one (c : PackV) : ∀ u ∈ c.cells, u.oneCell' = true := by simp [PackV.cells, Value.oneCell']

set_option maxRecDepth 100000 in
set_option maxHeartbeats 400000 in
theorem out_none {w : World} {B : Nat} {L : Lay} {s : OS} {ps : List PackV} {cs : List ChangeV} (h : OB w B L s ps cs) :
    Calls Tryz.prog 58 #[.pointer (some ⟨L.p, 0, none⟩)] w fun e w' => e = .returned (.bool false) ∧ w = w' := by
  have c0 : w.cell? ⟨L.p, 0, none⟩ = some (.pointer (some ⟨L.ib, 0, none⟩)) := h.box.cell 0
  go_enter Tryz.func58, Tryz.ntmps58
  go_wp2
  go_ret
  simp

set_option maxRecDepth 100000 in
set_option maxHeartbeats 400000 in
theorem out_changes {w : World} {B : Nat} {L : Lay} {s : OS} {ps : List PackV} {cs : List ChangeV} (h : OB w B L s ps cs) (c : ChangeV) (g : Nat) (hg : Blk w g c.cells.toArray 115) (hn : cs.length < 1000000) :
    Calls Tryz.prog 86 #[.pointer (some ⟨L.p, 0, none⟩), .slice (some ⟨g, 0, none⟩) 1 1] w fun e w' => e = .returned (.tuple #[]) ∧ ∃ v, OB w' B { L with vc := v } s ps (cs ++ [c]) ∧ Stp L.foot { L with vc := v : Lay }.foot w w' := by
  obtain ⟨p, ib, sb, vl, vp, vc, rb, W⟩ := L
  have c8 : w.cell? ⟨p, 8, none⟩ = some vc := h.box.cell 8
  have f8 := h.box.frozen 8
  dsimp only at *
  have HR := hid h.chgs
  dsimp only at HR
  go_enter Tryz.func86, Tryz.ntmps86
  go_wp2_with (at_builtin; refine append_grp rfl _ _ rfl eChg (by decide) B vc cs.length (cs.flatMap ChangeV.cells) rfl HR.out g c.cells 115 rfl hg rfl c.one (by omega) (by omega) h.base ?_; intro v' w1 r1 g1 n1; have hw1 : WT 115 w w1 := WT.row HR.out g1; have b1 := h.box.wt hw1 (by decide); have f1 := b1.frozen 8; have k1 := b1.cell 8; dsimp only at f1 k1 b1; obtain ⟨a', cap', rfl⟩ := own_slice r1)
  go_end0
  have hw2 : WT 123 w1 (w1.setCell ⟨p, 8, none⟩ (.slice a' (cs.length + 1) cap')) := WT.set b1 8 _
  have hst : Wrote (Lay.foot ⟨p, ib, sb, vl, vp, vc, rb, W⟩) w (w1.setCell ⟨p, 8, none⟩ (.slice a' (cs.length + 1) cap')) := by
    refine (Wrote.of_grown g1 (fun k hk => ?_)).trans (Wrote.setCell w1 _ (by simp [Lay.foot]) _)
    simp [Lay.foot, mem_blk, hk]
  have hsub : ∀ x ∈ Lay.foot { p := p, ib := ib, sb := sb, vl := vl, vp := vp, rb := rb, W := W, vc := .slice a' (cs.length + 1) cap' }, x ∈ Lay.foot ⟨p, ib, sb, vl, vp, vc, rb, W⟩ ∨ w.heap.size ≤ x := by
    intro x hx
    simp only [Lay.foot, List.mem_cons, List.mem_append, mem_blk] at hx ⊢
    have := n1 x
    rcases hx with hx | hx | hx | ((hx | hx) | hx) | hx
    all_goals first | (simp [hx]; done) | (rcases this hx with h1 | h1 <;> simp [h1])
  refine ⟨rfl, .slice a' (cs.length + 1) cap', ⟨Nat.le_trans h.base hst.size, b1.set 8 _, ⟨(h.inb.box.wt hw1 (by decide)).wt hw2 (by decide), (h.inb.set.wt hw1 (by decide)).wt hw2 (by decide)⟩, h.set, row_wt (row_wt h.rows hw1 (by decide)) hw2 (by decide), h.len, fun i b r h1 h2 => ((h.cells i b r h1 h2).wt hw1 (by decide)).wt hw2 (by decide), h.nodup, row_wt (row_wt h.packs hw1 (by decide)) hw2 (by decide), by simpa using row_wt r1 hw2 (by decide), h.tz.wrote hst h.gg, ?_, h.ok⟩, hst, hsub⟩
  intro hx
  rcases hsub _ hx with h1 | h1
  · exact h.gg h1
  · have := h.tz.lt
    omega

set_option maxRecDepth 100000 in
set_option maxHeartbeats 400000 in
theorem out_says {w : World} {B : Nat} {L : Lay} {s : OS} {ps : List PackV} {cs : List ChangeV} (h : OB w B L s ps cs) (c : PackV) (g : Nat) (hg : Blk w g c.cells.toArray 81) (hn : ps.length < 1000000) :
    Calls Tryz.prog 101 #[.pointer (some ⟨L.p, 0, none⟩), .slice (some ⟨g, 0, none⟩) 1 1] w fun e w' => e = .returned (.tuple #[]) ∧ ∃ v, OB w' B { L with vp := v } s (ps ++ [c]) cs ∧ Stp L.foot { L with vp := v : Lay }.foot w w' := by
  obtain ⟨p, ib, sb, vl, vp, vc, rb, W⟩ := L
  have c8 : w.cell? ⟨p, 7, none⟩ = some vp := h.box.cell 7
  have f8 := h.box.frozen 7
  dsimp only at *
  have HR := hid h.packs
  dsimp only at HR
  go_enter Tryz.func101, Tryz.ntmps101
  go_wp2_with (at_builtin; refine append_grp rfl _ _ rfl ePack (by decide) B vp ps.length (ps.flatMap PackV.cells) rfl HR.out g c.cells 81 rfl hg rfl c.one (by omega) (by omega) h.base ?_; intro v' w1 r1 g1 n1; have hw1 : WT 81 w w1 := WT.row HR.out g1; have b1 := h.box.wt hw1 (by decide); have f1 := b1.frozen 7; have k1 := b1.cell 7; dsimp only at f1 k1 b1; obtain ⟨a', cap', rfl⟩ := own_slice r1)
  go_end0
  have hw2 : WT 123 w1 (w1.setCell ⟨p, 7, none⟩ (.slice a' (ps.length + 1) cap')) := WT.set b1 7 _
  have hst : Wrote (Lay.foot ⟨p, ib, sb, vl, vp, vc, rb, W⟩) w (w1.setCell ⟨p, 7, none⟩ (.slice a' (ps.length + 1) cap')) := by
    refine (Wrote.of_grown g1 (fun k hk => ?_)).trans (Wrote.setCell w1 _ (by simp [Lay.foot]) _)
    simp [Lay.foot, mem_blk, hk]
  have hsub : ∀ x ∈ Lay.foot { p := p, ib := ib, sb := sb, vl := vl, vc := vc, rb := rb, W := W, vp := .slice a' (ps.length + 1) cap' }, x ∈ Lay.foot ⟨p, ib, sb, vl, vp, vc, rb, W⟩ ∨ w.heap.size ≤ x := by
    intro x hx
    simp only [Lay.foot, List.mem_cons, List.mem_append, mem_blk] at hx ⊢
    have := n1 x
    rcases hx with hx | hx | hx | ((hx | hx) | hx) | hx
    all_goals first | (simp [hx]; done) | (rcases this hx with h1 | h1 <;> simp [h1])
  refine ⟨rfl, .slice a' (ps.length + 1) cap', ⟨Nat.le_trans h.base hst.size, b1.set 7 _, ⟨(h.inb.box.wt hw1 (by decide)).wt hw2 (by decide), (h.inb.set.wt hw1 (by decide)).wt hw2 (by decide)⟩, h.set, row_wt (row_wt h.rows hw1 (by decide)) hw2 (by decide), h.len, fun i b r h1 h2 => ((h.cells i b r h1 h2).wt hw1 (by decide)).wt hw2 (by decide), h.nodup, by simpa using row_wt r1 hw2 (by decide), row_wt (row_wt h.chgs hw1 (by decide)) hw2 (by decide), h.tz.wrote hst h.gg, ?_, h.ok⟩, hst, hsub⟩
  intro hx
  rcases hsub _ hx with h1 | h1
  · exact h.gg h1
  · have := h.tz.lt
    omega

end Go.Proofs.YtoinabapaeebfaaGreatDoor
