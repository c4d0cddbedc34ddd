/- slices.Clone at bytes; package length: parts, Split. -/
import Derived.Test.YtjgflihokbmhiaaLenF
import Derived.Test.YtjgflihokbmhiaaDraw
import Derived.IntWalk
import Derived.Laws.AppendOwnNone
namespace Go.Proofs.Ytjgflihokbmhiaa
open Go.RowKit Go.Shelf
attribute [local go_sem] Oper.semAt_some

theorem bs_one (l : List UInt8) : ∀ u ∈ bs l, u.oneCell' = true := by
  intro u hu
  obtain ⟨x, _, rfl⟩ := List.mem_map.1 hu
  rfl

/-- 'append(own, src...)' from whatever source that is not nil. -/
theorem append_src {P : Program} {w : World} {ops : Array Oper} {rest : List Oper} {o : Oper} {a : Act} {Q : Exit → Act → World → Prop} {t e : TypeId} {z : Value} {bytes : Nat} (hgd : o.guard = none) (s x : Operand)
    (ho : o.op = .call { callee := .builtin .append, args := #[s, x], argTypes := #[t, t] }) (E : ElemT P t e z 1 bytes)
    (base : Nat) (v : Value) (n : Nat) (xs : List Value) (hs : a.eval s = v) (hown : w.ownsRow base e 1 v n xs) (ad : Addr) (m c : Nat) (ys : List Value) (hu : ∀ u ∈ ys, u.oneCell' = true)
    (hx : a.eval x = .slice (some ad) m c) (hrow : RowAt w (some ad) m c ys) (h63 : n + m ≤ 140737488355328) (hbytes : (n + m) * bytes ≤ 140737488355328) (hbase : base ≤ w.heap.size)
    (h : ∀ v' w', w'.ownsRow base e 1 v' (n + m) (xs ++ ys) → w.grownBy w' v.ownBlock → (v' = .slice none 0 0 ↔ v = .slice none 0 0 ∧ m = 0) → wpList P ops Q rest (a.put o.dst v') w') : wpList P ops Q (o :: rest) a w := by
  obtain ⟨i, hi, hz0, hz1, hz2⟩ := info_parts E.info
  refine wpList_append_own _ hgd s x t ho base e i z 1 bytes E.ht hi hz0 hz1 hz2 E.hzs (by decide) v n xs hs hown ad m c ys hx (by rw [hrow.len]; omega) ?_ hu ?_ hbytes hbase h
  · intro j u hj
    have hjm : j < m := by have := (List.getElem?_eq_some_iff.1 hj).1; have := hrow.len; omega
    obtain ⟨b, off, ha, hc⟩ := hrow.cells j hjm
    cases ha
    rw [hj] at hc
    by_cases h0 : j = 0
    · subst h0; simpa [Addr.add] using hc
    · simpa [Addr.add, h0] using hc
  · unfold maxLen; omega

/-- 'append(own, src...)' from whatever source. -/
theorem append_any {P : Program} {w : World} {ops : Array Oper} {rest : List Oper} {o : Oper} {a : Act} {Q : Exit → Act → World → Prop} {t e : TypeId} {z : Value} {bytes : Nat} (hgd : o.guard = none) (s x : Operand)
    (ho : o.op = .call { callee := .builtin .append, args := #[s, x], argTypes := #[t, t] }) (E : ElemT P t e z 1 bytes)
    (base : Nat) (v : Value) (n : Nat) (xs : List Value) (hs : a.eval s = v) (hown : w.ownsRow base e 1 v n xs) (ad : Option Addr) (m c : Nat) (ys : List Value) (hu : ∀ u ∈ ys, u.oneCell' = true)
    (hx : a.eval x = .slice ad m c) (hrow : RowAt w ad m c ys) (h63 : n + m ≤ 140737488355328) (hbytes : (n + m) * bytes ≤ 140737488355328) (hbase : base ≤ w.heap.size)
    (h : ∀ v' w', w'.ownsRow base e 1 v' (n + m) (xs ++ ys) → w.grownBy w' v.ownBlock → wpList P ops Q rest (a.put o.dst v') w') : wpList P ops Q (o :: rest) a w := by
  cases ad with
  | some ad => exact append_src hgd s x ho E base v n xs hs hown ad m c ys hu hx hrow h63 hbytes hbase (fun v' w' h1 h2 _ => h v' w' h1 h2)
  | none =>
    obtain ⟨i, hi, hz0, hz1, hz2⟩ := info_parts E.info
    have hc := hrow.hnil rfl
    have hm : m = 0 := by have := hrow.le; omega
    have hy : ys = [] := List.eq_nil_of_length_eq_zero (by rw [hrow.len, hm])
    subst hc hm hy
    refine wpList_append_own_none hgd s x t ho base e i 1 E.ht hi v n xs hs hown hx (h v w (by simpa using hown) (World.grownBy.refl w _))

set_option maxRecDepth 100000 in
set_option maxHeartbeats 400000 in
theorem clone_bytes (a : Option Addr) (n cap : Nat) (l : List UInt8) (w : World) (h : RowAt w a n cap (bs l)) (hn : n ≤ 140737488355328) :
    Calls Try.prog 49 #[.slice a n cap] w fun e w' => ∃ v, e = .returned v ∧ w'.ownsRow w.heap.size 5 1 v n (bs l) ∧ Below w.heap.size w w' := by
  have qT : ∀ (w : World) (a : Option Addr) (n c n' c' : Nat), (binOp .eql 22 (.slice a n c) (.slice none n' c')).run Try.prog w = .ok (.bool a.isNone) w := fun w a n c n' c' => Lib.run_eql_slice_nil w _ _ a n c n' c' Try.underlying22
  cases a with
  | none =>
    have h0 : n = 0 := by
      rcases Nat.eq_zero_or_pos n with h0 | h0
      · exact h0
      · obtain ⟨_, _, ha, _⟩ := h.cells 0 h0; cases ha
    have hl : bs l = [] := List.eq_nil_of_length_eq_zero (by rw [h.len, h0])
    subst h0
    have HL := hid hl; clear hl h
    go_enter Try.func49, Try.ntmps49
    go_wp2
    go_ret
    exact ⟨_, rfl, by rw [HL.out]; exact World.ownsRow_nil _ _ _ _, Below.refl _ _⟩
  | some ad =>
    go_enter Try.func49, Try.ntmps49
    go_wp2_with (at_builtin; refine append_src rfl _ _ rfl Try.eByte w.heap.size _ 0 [] rfl (World.ownsRow_made w #[] 0 (Nat.le_refl _) (Nat.zero_le _) rfl) ad n cap (bs l) (bs_one l) rfl (h.alloc _) (by omega) (by omega) (by simp) ?_; intro v' w' how hg _)
    go_ret
    refine ⟨_, rfl, by simpa using how, ?_⟩
    exact ((Below.refl _ w).alloc (Nat.le_refl _) _).grown hg (by simp) (fun k hk => by cases hk; exact Nat.le_refl _)

set_option maxHeartbeats 400000 in
theorem len_parts (a : Option Addr) (n cap : Nat) (most : Int) (w : World) :
    Calls Try.prog 48 #[.slice a n cap, .int .i64 most] w fun e w' => e = .returned (.func (.func 60) #[] #[.pointer (some ⟨w.heap.size, 0, none⟩), .pointer (some ⟨w.heap.size + 1, 0, none⟩)]) ∧
      (w.alloc (.cells #[.slice a n cap] 22)).alloc (.cells #[.int .i64 most] 2) = w' := by
  go_enter Try.func48, Try.ntmps48
  go_wp2
  go_ret
  exact ⟨rfl, rfl⟩

/-- Values that each own the bytes of a list. -/
def Owned (w : World) (base : Nat) : List Value → List (List UInt8) → Prop
  | [], [] => True
  | v :: vs, p :: ps => w.ownsRow base 5 1 v p.length (bs p) ∧ Owned w base vs ps
  | _, _ => False

/-- What Split answers of a length that may be. -/
def SplitOk (most : Int) (l : List UInt8) (w : World) (e : Ending) (w' : World) : Prop :=
  Below w.heap.size w w' ∧ ∃ ps r, ChainL most l ps r ∧
    ((errL most r ≠ 0 ∧ e = .returned (.tuple #[.slice none 0 0, .slice none 0 0, .int .i64 (errL most r)])) ∨
     (errL most r = 0 ∧ fullL r = false ∧ ∃ ov lv vs, e = .returned (.tuple #[ov, lv, .int .i64 0]) ∧ w'.ownsRow w.heap.size 22 1 ov ps.length vs ∧ Owned w' w.heap.size vs ps ∧
       w'.ownsRow w.heap.size 5 1 lv r.length (bs r)))

/-- What holds between two rounds of Split's loop. -/
def SplitI (most : Int) (l : List UInt8) (w : World) (pre : List PartV) (W : World) : Prop :=
  ∃ ov vs r, ChainL most l (pre.map (·.raw)) r ∧ Boxed W w.heap.size 49 ov ∧ Boxed W (w.heap.size + 1) 24 (.int .i64 0) ∧ Boxed W (w.heap.size + 1 + 1) 3 (.int .i64 ((l.length - r.length : Nat) : Int)) ∧ r.length ≤ l.length ∧
    W.ownsRow (w.heap.size + 7) 22 1 ov pre.length vs ∧ Owned W (w.heap.size + 7) vs (pre.map (·.raw)) ∧ Below w.heap.size w W
def SplitX (most : Int) (l : List UInt8) (w : World) (c : Code) (_pre : List PartV) (W : World) : Prop :=
  c = .exit 0 ∧ ∃ ov ps r, ChainL most l ps r ∧ errL most r ≠ 0 ∧ Boxed W w.heap.size 49 ov ∧ Boxed W (w.heap.size + 1) 24 (.int .i64 (errL most r)) ∧ Below w.heap.size w W
theorem ChainL.fn {most : Int} {l : List UInt8} {ps : List (List UInt8)} {r r' : List UInt8} (h : ChainL most l ps r) (k : ChainL most l ps r') : r = r' := by
  induction ps generalizing l with
  | nil => exact Eq.trans (Eq.symm h) k
  | cons p ps ih => exact ih h.2.2.2 k.2.2.2
theorem cutL_le (r : List UInt8) (h : fullL r = true) : cutL r ≤ r.length ∧ 0 < cutL r := by
  obtain ⟨g1, g2, g3, g4, g5, g6, g7⟩ := readL_facts r
  simp only [fullL, Bool.and_eq_true, decide_eq_true_eq] at h
  unfold cutL
  omega
theorem ChainL.len {most : Int} {l : List UInt8} {ps : List (List UInt8)} {r : List UInt8} (h : ChainL most l ps r) : ps.length + r.length ≤ l.length := by
  induction ps generalizing l with
  | nil => obtain rfl : l = r := h; simp
  | cons p ps ih =>
    have h1 := ih h.2.2.2
    have h2 := cutL_le l h.2.1
    simp only [List.length_drop, List.length_cons] at *
    omega
theorem ChainL.drop {most : Int} {l : List UInt8} {ps : List (List UInt8)} {r : List UInt8} (h : ChainL most l ps r) : l.drop (l.length - r.length) = r := by
  have key : ∃ k, k ≤ l.length ∧ r = l.drop k := by
    induction ps generalizing l with
    | nil => obtain rfl : l = r := h; exact ⟨0, Nat.zero_le _, rfl⟩
    | cons p ps ih =>
      obtain ⟨k, hk, hr⟩ := ih h.2.2.2
      have h2 := cutL_le l h.2.1
      simp only [List.length_drop] at hk
      exact ⟨cutL l + k, by omega, by rw [hr, List.drop_drop]⟩
  obtain ⟨k, hk, rfl⟩ := key
  rw [List.length_drop, show l.length - (l.length - k) = k from by omega]
theorem ChainL.last {most : Int} {l : List UInt8} {ps : List (List UInt8)} {p r r' : List UInt8} (h : ChainL most l ps r) (k : ChainL most l (ps ++ [p]) r') : errL most r = 0 := by
  induction ps generalizing l with
  | nil => obtain rfl : l = r := h; exact k.1
  | cons q ps ih => exact ih h.2.2.2 k.2.2.2
theorem Owned.snoc {w : World} {base : Nat} {vs : List Value} {ps : List (List UInt8)} {v : Value} {p : List UInt8} (h : Owned w base vs ps) (hv : w.ownsRow base 5 1 v p.length (bs p)) : Owned w base (vs ++ [v]) (ps ++ [p]) := by
  induction vs generalizing ps with
  | nil => cases ps with
    | nil => exact ⟨hv, trivial⟩
    | cons p ps => exact h.elim
  | cons v vs ih => cases ps with
    | nil => exact h.elim
    | cons p ps => exact ⟨h.1, ih h.2⟩
theorem Owned.map {w w' : World} {base base' : Nat} {vs : List Value} {ps : List (List UInt8)} (h : Owned w base vs ps) (hf : ∀ v p, w.ownsRow base 5 1 v p.length (bs p) → w'.ownsRow base' 5 1 v p.length (bs p)) : Owned w' base' vs ps := by
  induction vs generalizing ps with
  | nil => cases ps with
    | nil => trivial
    | cons p ps => exact h
  | cons v vs ih => cases ps with
    | nil => exact h
    | cons p ps => exact ⟨hf _ _ h.1, ih h.2⟩
theorem Try.eBytes : ElemT Try.prog 49 22 (.slice none 0 0) 1 24 := ⟨Try.underlying49, by kernel_rfl, rfl⟩

theorem Try.szB (W : World) : (sizeOf (Try.prog.elem 22)).run Try.prog W = .ok 1 W := by kernel_rfl
theorem Try.uelB : Try.prog.underlying 22 = some (.slice (Try.prog.elem 22)) := by kernel_rfl

theorem Owned.wrote {w w' : World} {M : List Nat} {base : Nat} {vs : List Value} {ps : List (List UInt8)} (h : Owned w base vs ps) (hw : Wrote M w w') (hM : ∀ x ∈ M, x < base) : Owned w' base vs ps := by
  induction vs generalizing ps with
  | nil => cases ps with
    | nil => trivial
    | cons p ps => exact h
  | cons v vs ih => cases ps with
    | nil => exact h
    | cons p ps => exact ⟨hw.row hM h.1, ih h.2⟩

set_option maxRecDepth 100000 in
set_option maxHeartbeats 1000000 in
theorem len_split (a : Option Addr) (n cap : Nat) (l : List UInt8) (most : Int) (w : World) (h : RowAt w a n cap (bs l)) (hn : n ≤ 1000000) (hm : mayL most = true) :
    Calls Try.prog 26 #[.slice a n cap, .int .i64 most] w (SplitOk most l w) := by
  refine calls_marks Try.func26 rfl ?_
  simp only [Try.ntmps26, List.size_toArray, List.length_cons, List.length_nil, Nat.reduceAdd, Nat.reduceSub, Array.replicate_succ, Array.replicate_zero, List.push_toArray, List.append_toArray, List.nil_append, List.cons_append]
  go_wp2_with fail
  apply wp_scope_straight
  go_wp2_with fail
  refine (len_may _ _).mono ?_
  rintro e w' ⟨rfl, rfl⟩
  go_wp2_with fail
  apply wp_label
  go_wp2_with fail
  refine (len_parts _ _ _ _ _).mono ?_
  rintro e w' ⟨rfl, rfl⟩
  go_wp2_with fail
  generalize hW0 : ((((w.alloc (Obj.cells #[Value.slice none 0 0] 49)).alloc (Obj.cells #[Value.int IntKind.i64 0] 24)).alloc (Obj.cells #[Value.int IntKind.i64 0] 3)).alloc (Obj.cells #[Value.slice a n cap] 22)).alloc (Obj.cells #[Value.int IntKind.i64 most] 2) = W0
  have hsz : W0.heap.size = w.heap.size + 5 := by rw [← hW0]; simp
  have hb0 : Below w.heap.size w W0 := by
    rw [← hW0]
    exact (((((Below.refl _ w).alloc (Nat.le_refl _) _).alloc (by simp) _).alloc (by simp; omega) _).alloc (by simp; omega) _).alloc (by simp; omega) _
  have hbx : Boxed W0 w.heap.size 49 (.slice none 0 0) ∧ Boxed W0 (w.heap.size + 1) 24 (.int .i64 0) ∧ Boxed W0 (w.heap.size + 1 + 1) 3 (.int .i64 0) ∧
      Boxed W0 (w.heap.size + 3) 22 (.slice a n cap) ∧ Boxed W0 (w.heap.size + 3 + 1) 2 (.int .i64 most) := by
    have e1 := Boxed.new w 49 (.slice none 0 0)
    have e2 := Boxed.new (w.alloc (Obj.cells #[Value.slice none 0 0] 49)) 24 (.int .i64 0)
    have e3 := Boxed.new ((w.alloc (Obj.cells #[Value.slice none 0 0] 49)).alloc (Obj.cells #[Value.int IntKind.i64 0] 24)) 3 (.int .i64 0)
    have e4 := Boxed.new (((w.alloc (Obj.cells #[Value.slice none 0 0] 49)).alloc (Obj.cells #[Value.int IntKind.i64 0] 24)).alloc (Obj.cells #[Value.int IntKind.i64 0] 3)) 22 (.slice a n cap)
    have e5 := Boxed.new ((((w.alloc (Obj.cells #[Value.slice none 0 0] 49)).alloc (Obj.cells #[Value.int IntKind.i64 0] 24)).alloc (Obj.cells #[Value.int IntKind.i64 0] 3)).alloc (Obj.cells #[Value.slice a n cap] 22)) 2 (.int .i64 most)
    simp only [World.size_alloc] at e2 e3 e4 e5
    rw [← hW0]
    exact ⟨(((e1.alloc _).alloc _).alloc _).alloc _, ((e2.alloc _).alloc _).alloc _, (e3.alloc _).alloc _, e4.alloc _, e5⟩
  obtain ⟨b1, b2, b3, b4, b5⟩ := hbx
  have hlen : l.length = n := by have := h.len; rwa [bs_len] at this
  have HW0 := hid hW0; clear hW0
  have HL := hid hlen; clear hlen
  refine wp_range (α := PartV) (gf := 60) (lb := #[.pointer (some ⟨w.heap.size + 1 + 1 + 1, 0, none⟩), .pointer (some ⟨w.heap.size + 1 + 1 + 1 + 1, 0, none⟩)]) rfl (enters_of Try.func60 (by kernel_rfl) rfl)
    (n₀ := w.heap.size) (L := [w.heap.size + 3, w.heap.size + 3 + 1]) (M := [w.heap.size + 3]) (len_parts1 most a n cap l w W0 (w.heap.size + 3) (by omega) hb0 h b4 b5)
    (by omega) (by simp; omega) (by simp; omega) (fun _ => rfl) (SplitI most l w) (SplitX most l w) ?hI ?hIx ?h0
    (fun pre x a' W => PartNx most l w pre x W ∧ ∃ Bx, w.heap.size + 6 < Bx ∧ W.heap[Bx]? = some (.cells #[.slice x.a x.n x.cap, .int .i64 x.size, .int .i64 x.why] 83 (0, 0)) ∧
      a' = { tmps := #[.slice a n cap, .int .i64 most, undef, undef, .pointer (some ⟨w.heap.size, 0, none⟩), .slice none 0 0, .pointer (some ⟨w.heap.size + 1, 0, none⟩), .pointer (some ⟨w.heap.size + 1 + 1, 0, none⟩), .pointer (some ⟨Bx, 0, none⟩), .int .i64 most, .bool true, .bool false, .slice a n cap, .int .i64 most,
        .func (.func 60) #[] #[.pointer (some ⟨w.heap.size + 1 + 1 + 1, 0, none⟩), .pointer (some ⟨w.heap.size + 1 + 1 + 1 + 1, 0, none⟩)], .agg #[.slice x.a x.n x.cap, .int .i64 x.size, .int .i64 x.why], undef, undef, undef, undef, undef, undef, undef, undef, undef, undef, undef, undef, undef, undef, undef, undef, undef, undef, undef, undef, undef, undef], defers := [] }) ?hAx ?assign ?body ?done ?stop
  case hI =>
    rintro s A A' ⟨ov, vs, r, g1, g2, g3, g4, g5, g6, g7, g8⟩ hw
    rw [hsz] at hw
    exact ⟨ov, vs, r, g1, hw.boxed (by simp <;> omega) g2, hw.boxed (by simp <;> omega) g3, hw.boxed (by simp <;> omega) g4, g5, hw.row (by simp <;> omega) g6, g7.wrote hw (by simp <;> omega), g8.trans (hw.below g8.size (by simp <;> omega))⟩
  case hIx =>
    rintro c s A A' ⟨rfl, ov, ps, r, g1, g2, g3, g4, g5⟩ hw
    rw [hsz] at hw
    exact ⟨rfl, ov, ps, r, g1, g2, hw.boxed (by simp <;> omega) g3, hw.boxed (by simp <;> omega) g4, g5.trans (hw.below g5.size (by simp <;> omega))⟩
  case h0 => exact ⟨.slice none 0 0, [], l, rfl, b1, b2, by simpa using b3, Nat.le_refl _, World.ownsRow_nil _ _ _ _, trivial, hb0⟩
  case hAx =>
    rintro pre x a' A A' ⟨hx, Bx, h1, h2, h3⟩ hl hw
    rw [hsz] at hw
    exact ⟨hx, Bx, h1, (hw.block Bx (Array.getElem?_eq_some_iff.1 h2).1 (by simp <;> omega)).trans h2, h3⟩
  case assign =>
    intro pre x W K hl hi hx hK
    rw [hsz] at hl
    simp only [PartV.enc]
    gi_wp2
    have hb := (Below.refl W.heap.size W).alloc (Nat.le_refl _) (.cells #[.slice x.a x.n x.cap, .int .i64 x.size, .int .i64 x.why] 83)
    refine hK _ _ hb ?_ ⟨hx, W.heap.size, by omega, World.alloc_heap_new _ _, rfl⟩
    obtain ⟨ov, vs, r, g1, g2, g3, g4, g5, g6, g7, g8⟩ := hi
    exact ⟨ov, vs, r, g1, g2.alloc _, g3.alloc _, g4.alloc _, g5, g6.alloc _, g7.wrote (Wrote.alloc [] _ _) (by simp), g8.alloc g8.size _⟩
  case body =>
    rintro pre x a' W hl hi ⟨hx, Bx, hBx, hpx, rfl⟩
    rw [hsz] at hl ⊢
    obtain ⟨ov, vs, r, g1, g2, g3, g4, g5, g6, g7, g8⟩ := hi
    have c1 := g2.cell
    have c2 := g3.cell
    have c3 := g4.cell
    have f1 := g2.frozen
    have f2 := g3.frozen
    have f3 := g4.frozen
    have p0 : W.cell? ⟨Bx, 0, none⟩ = some (.slice x.a x.n x.cap) := by simp [World.cell?, hpx]
    have p1 : W.cell? ⟨Bx, 1, none⟩ = some (.int .i64 x.size) := by simp [World.cell?, hpx]
    have p2 : W.cell? ⟨Bx, 2, none⟩ = some (.int .i64 x.why) := by simp [World.cell?, hpx]
    obtain ⟨r', hch, hcase⟩ := hx
    obtain rfl := g1.fn hch
    clear hch
    rcases hcase with ⟨he, rfl⟩ | ⟨he, hfull, hwhy, hsize, hraw, hrow⟩
    · have e1 : (errL most r != 0) = true := by simpa using he
      generalize hE : errL most r = E at *
      have HE := hid hE; clear hE
      gi_wp2
      exact ⟨Keep.setCell _ _ (by simp) (by simp <;> omega) _, rfl, ov, _, r, g1, by rw [HE.out]; exact he, g2.other (by omega) _, by rw [HE.out]; exact g3.set _, g8.setCell (p := ⟨w.heap.size + 1, 0, none⟩) (by simp) _⟩
    · obtain ⟨xa, xn, xcap, xsize, xwhy, xraw⟩ := x
      dsimp only at hwhy hsize hraw hrow p0 p1 p2 hpx
      subst hwhy hsize
      have hlr : xraw.length = xn := by have := hrow.len; rwa [bs_len] at this
      have hxn : xn ≤ 1000000 := by
        rw [← hlr, hraw]
        have := HL.out
        unfold partL
        simp
        omega
      have hpl : pre.length ≤ 1000000 := by have h1 := g1.len; have h2 := HL.out; rw [List.length_map] at h1; omega
      have hclone := hid (fun (W' : World) (hW' : Below w.heap.size w W') => clone_bytes xa xn xcap xraw W' (hrow.below hW') (by omega))
      have hcut := (cutL_le r hfull).1
      have hln : l.length ≤ 1000000 := by have := HL.out; omega
      obtain ⟨q, hq⟩ : ∃ q, q = l.length - (r.drop (cutL r)).length := ⟨_, rfl⟩
      have hwr : IntKind.i64.wrap (((l.length - r.length : Nat) : Int) + (cutL r : Int)) = (q : Int) := by
        rw [IntWalk.i64_in _ (by omega), hq, List.length_drop]; omega
      have HQ := hid hq; clear hq
      have HF := hid hfull
      have HRaw := hid hraw
      have HLR := hid hlr
      have HErr := hid he
      clear hfull hraw hlr he
      gi_wp2_with fail
      have hk4 : Keep w.heap.size ((w.heap.size + 5) :: (w.heap.size + 5 + 1) :: [w.heap.size + 3, w.heap.size + 3 + 1]) W (W.setCell ⟨w.heap.size + 1, 0, none⟩ (.int .i64 0)) := Keep.setCell _ _ (by simp) (by simp <;> omega) _
      have k2 := g2.other (B' := w.heap.size + 1) (by omega) (.int .i64 0)
      have k3 := g3.set (.int .i64 0)
      have k4 := g4.other (B' := w.heap.size + 1) (by omega) (.int .i64 0)
      have k6 := ownsRow_setCell_other g6 (a := ⟨w.heap.size + 1, 0, none⟩) (fun e => by have := (g6.lt _ e).1; simp at this) (.int .i64 0)
      have k7 := g7.wrote (Wrote.setCell (M := [w.heap.size + 1]) W ⟨w.heap.size + 1, 0, none⟩ (by simp) (.int .i64 0)) (by simp)
      have k8 := g8.setCell (p := ⟨w.heap.size + 1, 0, none⟩) (by simp) (.int .i64 0)
      have kpx : (W.setCell ⟨w.heap.size + 1, 0, none⟩ (.int .i64 0)).heap[Bx]? = _ := (Below.heap_setCell W ⟨w.heap.size + 1, 0, none⟩ (.int .i64 0) Bx (by simp; omega)).trans hpx
      have ksz : (W.setCell ⟨w.heap.size + 1, 0, none⟩ (.int .i64 0)).heap.size = W.heap.size := by simp [World.setCell]
      generalize hW4 : W.setCell ⟨w.heap.size + 1, 0, none⟩ (.int .i64 0) = W4 at *
      clear hW4 g2 g3 g4 g6 g7 g8 hpx c1 c2 c3 f1 f2 f3 p0 p1 p2
      refine wpIn_region_L [(10, ⟨w.heap.size, 0, none⟩, ov), (11, ⟨w.heap.size + 1 + 1, 0, none⟩, .int .i64 ((l.length - r.length : Nat) : Int)), (1000, ⟨Bx, 0, none⟩, .slice xa xn xcap), (1000, ⟨Bx, 1, none⟩, .int .i64 (cutL r))] (by kernel_rfl) (by kernel_rfl) (fun a w h => h)
        (by
          intro f hf
          rcases List.mem_cons.1 hf with rfl | hf
          · exact k2.cell
          rcases List.mem_cons.1 hf with rfl | hf
          · exact k4.cell
          rcases List.mem_cons.1 hf with rfl | hf
          · simp [World.cell?, kpx]
          rcases List.mem_cons.1 hf with rfl | hf
          · simp [World.cell?, kpx]
          cases hf) (fun hcl hcf => ?_)
      refine takeL 1 rfl (by kernel_rfl) (by kernel_rfl) (by kernel_rfl) rfl (fun _ _ _ h => h) hcl hcf (Or.inl ⟨by rfl, fun w _ => by (go_simp; with_reducible rfl)⟩) (fun hcl hcf => ?_)
      try simp only [Act.put, List.setIfInBounds_toArray, List.set_cons_zero, List.set_cons_succ] at hcl hcf ⊢
      refine takeL 7 rfl (by kernel_rfl) (by kernel_rfl) (by kernel_rfl) rfl (fun _ _ _ h => h) hcl hcf (Or.inl ⟨by rfl, fun w _ => by (go_simp; with_reducible rfl)⟩) (fun hcl hcf => ?_)
      try simp only [Act.put, List.setIfInBounds_toArray, List.set_cons_zero, List.set_cons_succ] at hcl hcf ⊢
      refine takeL 0 rfl (by kernel_rfl) (by kernel_rfl) (by kernel_rfl) rfl (fun _ _ _ h => h) hcl hcf (Or.inl ⟨by rfl, fun w hup => by (obtain ⟨_, q1, q2, q3⟩ := hup; have hcell := CF.cell q1 q2 q3 10 _ _ (.head _) (by kernel_rfl); go_simp; with_reducible rfl)⟩) (fun hcl hcf => ?_)
      try simp only [Act.put, List.setIfInBounds_toArray, List.set_cons_zero, List.set_cons_succ] at hcl hcf ⊢
      refine takeL 2 rfl (by kernel_rfl) (by kernel_rfl) (by kernel_rfl) rfl (fun _ _ _ h => h) hcl hcf (Or.inl ⟨by rfl, fun w hup => by (obtain ⟨_, q1, q2, q3⟩ := hup; have hcell := CF.cell q1 q2 q3 1000 _ _ (.tail _ (.tail _ (.head _))) (by kernel_rfl); go_simp; with_reducible rfl)⟩) (fun hcl hcf => ?_)
      try simp only [Act.put, List.setIfInBounds_toArray, List.set_cons_zero, List.set_cons_succ] at hcl hcf ⊢
      refine takeL 6 rfl (by kernel_rfl) (by kernel_rfl) (by kernel_rfl) rfl (fun _ _ _ h => h) hcl hcf (Or.inl ⟨by rfl, fun w hup => by (obtain ⟨_, q1, q2, q3⟩ := hup; have hcell := CF.cell q1 q2 q3 11 _ _ (.tail _ (.head _)) (by kernel_rfl); go_simp; with_reducible rfl)⟩) (fun hcl hcf => ?_)
      try simp only [Act.put, List.setIfInBounds_toArray, List.set_cons_zero, List.set_cons_succ] at hcl hcf ⊢
      refine takeL 8 rfl (by kernel_rfl) (by kernel_rfl) (by kernel_rfl) rfl (fun _ _ _ h => h) hcl hcf (Or.inl ⟨by rfl, fun w hup => by (obtain ⟨_, q1, q2, q3⟩ := hup; have hcell := CF.cell q1 q2 q3 1000 _ _ (.tail _ (.tail _ (.tail _ (.head _)))) (by kernel_rfl); go_simp; with_reducible rfl)⟩) (fun hcl hcf => ?_)
      try simp only [Act.put, List.setIfInBounds_toArray, List.set_cons_zero, List.set_cons_succ] at hcl hcf ⊢
      refine takeL 9 rfl (by kernel_rfl) (by kernel_rfl) (by kernel_rfl) rfl (fun _ _ _ h => h) hcl hcf (Or.inl ⟨by rfl, fun w _ => by (go_simp; with_reducible rfl)⟩) (fun hcl hcf => ?_)
      try simp only [Act.put, List.setIfInBounds_toArray, List.set_cons_zero, List.set_cons_succ] at hcl hcf ⊢
      refine stepL [3] (by kernel_rfl) (by simp) hcl (fun hcl => AllReadyL.cons rfl (fun K hK => ?_) AllReadyL.nil)
      go_simp
      refine (hclone.out _ k8.drew).mono ?_
      rintro e w5 ⟨v5, rfl, how5, hb5⟩
      obtain ⟨a5, c5, rfl, -⟩ := RowAt.of_own how5
      have hb5' : Below W4.heap.size W4 w5 := ⟨hb5.os, hb5.tape, hb5.output, hb5.size, hb5.block⟩
      have hsz5 := hb5'.size
      have m2 := boxed_below k2 hb5'
      have m3 := boxed_below k3 hb5'
      have m4 := boxed_below k4 hb5'
      have m6 := ownsRow_below k6 hb5'
      have m7 := k7.wrote (Wrote.of_below (M := []) hb5') (by simp)
      have m8 := k8.trans (hb5'.mono k8.size)
      have mpx := (hb5'.block Bx (Array.getElem?_eq_some_iff.1 kpx).1).trans kpx
      have mk := hk4.trans (Keep.of_below hb5' k8.size (fun k hk => by simp at hk; omega))
      have m9 := Owned.snoc (v := .slice a5 xn c5) (p := xraw) m7 (by rw [HLR.out]; exact ownsRow_mono how5 (show w.heap.size + 7 ≤ W4.drew.heap.size from by show _ ≤ W4.heap.size; omega))
      clear k2 k3 k4 k6 k7 k8 kpx hk4
      refine hK.out _ _ (CF.below hcf (by decide) hb5) (fun hcf => ?_)
      clear hK K
      have hcl := hcl _ (List.mem_singleton.2 rfl)
      try simp only [Act.put, List.setIfInBounds_toArray, List.set_cons_zero, List.set_cons_succ] at hcl hcf ⊢
      refine stepL [4] (by kernel_rfl) (by simp) hcl (fun hcl => AllReadyL.cons rfl (fun K hK => ?_) AllReadyL.nil)
      go_simp
      have hcf5 := CF.step (i := 4) hcf (by decide) (fun _ _ _ h => h) (w' := w5)
      refine hK.out _ _ (CF.below hcf (by decide) ((Below.refl _ _).alloc (Nat.le_refl _) _)) (fun hcf => ?_)
      clear hK K hcf
      have hcl := hcl _ (List.mem_singleton.2 rfl)
      try simp only [Act.put, List.setIfInBounds_toArray, List.set_cons_zero, List.set_cons_succ] at hcl hcf ⊢
      refine stepL [5] (by kernel_rfl) (by simp) hcl (fun hcl => AllReadyL.cons rfl (fun K hK => ?_) AllReadyL.nil)
      rw [if_pos (by rfl)]
      refine wp_append_one _ _ rfl Try.eBytes (w.heap.size + 7) _ _ _ rfl m6 _ rfl rfl (by omega) (by omega) (by omega) ?_
      intro v6 w6 how6 hg6
      have hsz6 := hg6.size
      have n2 := m2.kept hg6 (m2.not_row (by decide) m6)
      have n3 := m3.kept hg6 (m3.not_row (by decide) m6)
      have n4 := m4.kept hg6 (m4.not_row (by decide) m6)
      have npx := (hg6.block Bx (Array.getElem?_eq_some_iff.1 mpx).1 (block_not_row mpx (by decide) m6)).trans mpx
      have n9 := m9.map (w' := w6) (base' := w.heap.size + 7) (fun v p hv => ownsRow_grown hv (by decide) m6 hg6)
      have n8 := m8.grown hg6 (by omega) (fun k hk => by have := (m6.lt k hk).1; omega)
      have nk := mk.trans (Keep.grown hg6 m8.size (fun k hk => by have := (m6.lt k hk).1; simp; omega) (fun k hk => by simp at hk; omega))
      refine hK.out _ _ (CF.grown hcf5 (by decide) hg6 ?_) (fun hcf => ?_)
      · intro f hf
        rcases List.mem_cons.1 hf with rfl | hf
        · exact m2.not_row (by decide) m6
        rcases List.mem_cons.1 hf with rfl | hf
        · exact m4.not_row (by decide) m6
        rcases List.mem_cons.1 hf with rfl | hf
        · exact block_not_row mpx (by decide) m6
        rcases List.mem_cons.1 hf with rfl | hf
        · exact block_not_row mpx (by decide) m6
        cases hf
      clear hK K hcf5 m2 m3 m4 mpx m7 m8 m9 mk
      have hcl := hcl _ (List.mem_singleton.2 rfl)
      try simp only [Act.put, List.setIfInBounds_toArray, List.set_cons_zero, List.set_cons_succ] at hcl hcf ⊢
      obtain ⟨a6, c6, rfl, -⟩ := RowAt.of_own how6
      have q2 := n2.cell
      have q2f := n2.frozen
      have q4 := n4.cell
      have q4f := n4.frozen
      refine stepL [10] (by kernel_rfl) (by simp) hcl (fun hcl => AllReadyL.cons rfl (fun K hK => ?_) AllReadyL.nil)
      go_simp
      refine hK.out _ _ (CF.store hcf (by decide) _ _ ?_) (fun hcf => ?_)
      · intro f hf he
        rcases List.mem_cons.1 hf with rfl | hf
        · exact absurd rfl he
        rcases List.mem_cons.1 hf with rfl | hf
        · simp; omega
        rcases List.mem_cons.1 hf with rfl | hf
        · simp; omega
        rcases List.mem_cons.1 hf with rfl | hf
        · simp; omega
        cases hf
      clear hK K
      have hcl := hcl _ (List.mem_singleton.2 rfl)
      try simp only [Act.put, List.setIfInBounds_toArray, List.set_cons_zero, List.set_cons_succ] at hcl hcf ⊢
      refine stepL [11] (by kernel_rfl) (by simp) hcl (fun hcl => AllReadyL.cons rfl (fun K hK => ?_) AllReadyL.nil)
      go_simp
      refine hK.out _ _ (CF.store hcf (by decide) _ _ ?_) (fun hcf => ?_)
      · intro f hf he
        rcases List.mem_cons.1 hf with rfl | hf
        · simp; omega
        rcases List.mem_cons.1 hf with rfl | hf
        · exact absurd rfl he
        rcases List.mem_cons.1 hf with rfl | hf
        · simp; omega
        rcases List.mem_cons.1 hf with rfl | hf
        · simp; omega
        cases hf
      clear hK K
      refine doneL (by kernel_rfl) ?_ _
      have e1 := (n2.set (.slice a6 (pre.length + 1) c6)).other (B' := w.heap.size + 1 + 1) (by omega) (.int .i64 q)
      have e2 := (n3.other (B' := w.heap.size) (by omega) (.slice a6 (pre.length + 1) c6)).other (B' := w.heap.size + 1 + 1) (by omega) (.int .i64 q)
      have e3 := (n4.other (B' := w.heap.size) (by omega) (.slice a6 (pre.length + 1) c6)).set (.int .i64 q)
      have e4 := ownsRow_setCell_other (ownsRow_setCell_other how6 (a := ⟨w.heap.size, 0, none⟩) (fun e => by have := (how6.lt _ e).1; simp at this; omega) (.slice a6 (pre.length + 1) c6)) (a := ⟨w.heap.size + 1 + 1, 0, none⟩) (fun e => by have := (how6.lt _ e).1; simp at this; omega) (.int .i64 q)
      have ww := (Wrote.setCell (M := [w.heap.size, w.heap.size + 1 + 1]) w6 ⟨w.heap.size, 0, none⟩ (by simp) (.slice a6 (pre.length + 1) c6)).trans (Wrote.setCell (M := [w.heap.size, w.heap.size + 1 + 1]) _ ⟨w.heap.size + 1 + 1, 0, none⟩ (by simp) (.int .i64 q))
      refine ⟨(nk.trans (Keep.setCell _ ⟨w.heap.size, 0, none⟩ (by simp) (by simp <;> omega) _)).trans (Keep.setCell _ ⟨w.heap.size + 1 + 1, 0, none⟩ (by simp; omega) (by simp <;> omega) _), .slice a6 (pre.length + 1) c6, vs ++ [.slice a5 xn c5], r.drop (cutL r), ?_, e1, e2, ?_, ?_, ?_, ?_, ?_⟩
      · have h1 := g1.snoc HErr.out HF.out
        rw [← HRaw.out] at h1
        simpa using h1
      · rw [← HQ.out]; exact e3
      · simp; omega
      · rw [List.length_append]; exact e4
      · rw [List.map_append]; exact n9.wrote ww (by simp <;> omega)
      · exact n8.trans (ww.below n8.size (by simp <;> omega))
  case done =>
    rintro xs W hS hi hl hD
    rw [hsz] at hl
    obtain ⟨ov, vs, r, g1, g2, g3, g4, g5, g6, g7, g8⟩ := hi
    have hS' : errL most r = 0 ∧ fullL r = false := by
      rcases hS with ⟨r', h1, h2, h3⟩ | ⟨pre, x, r', rfl, h1, h2⟩
      · obtain rfl := g1.fn h1; exact ⟨h2, h3⟩
      · rw [List.map_append] at g1
        exact absurd (h1.last g1) h2
    clear hS
    have hln : l.length ≤ 1000000 := by have := HL.out; omega
    have c1 := g2.cell
    have c2 := g3.cell
    have c3 := g4.cell
    have f1 := g2.frozen
    have f2 := g3.frozen
    have f3 := g4.frozen
    obtain ⟨hS1, hS2⟩ := hS'
    have HS1 := hid hS1
    have HS2 := hid hS2
    clear hS1 hS2
    go_wp2_with fail
    have hsl := run_cut_l Try.uelB Try.szB a n cap ((l.length - r.length : Nat) : Int) (l.length - r.length) rfl (by have := HL.out; omega)
    have hclone := hid (fun (W' : World) (hW' : Below w.heap.size w W') => clone_bytes (cutA a cap (l.length - r.length)) (n - (l.length - r.length)) (cap - (l.length - r.length)) (l.drop (l.length - r.length)) W' (by rw [← bs_drop]; exact (h.below hW').from (by have := HL.out; omega)) (by omega))
    refine wp_region_noPanic ?_
    refine wp_region_L [(5, ⟨w.heap.size, 0, none⟩, ov), (1000, ⟨w.heap.size + 1 + 1, 0, none⟩, .int .i64 ((l.length - r.length : Nat) : Int))] (by kernel_rfl)
      (by
        intro f hf
        rcases List.mem_cons.1 hf with rfl | hf
        · exact c1
        rcases List.mem_cons.1 hf with rfl | hf
        · exact c3
        cases hf) (fun hcl hcf => ?_)
    refine takeL 0 rfl (by kernel_rfl) (by kernel_rfl) (by kernel_rfl) rfl (fun _ _ _ h => h) hcl hcf (Or.inl ⟨by rfl, fun w hup => by (obtain ⟨_, q1, q2, q3⟩ := hup; have hcell := CF.cell q1 q2 q3 5 _ _ (.head _) (by kernel_rfl); go_simp; with_reducible rfl)⟩) (fun hcl hcf => ?_)
    try simp only [Act.put, List.setIfInBounds_toArray, List.set_cons_zero, List.set_cons_succ] at hcl hcf ⊢
    refine takeL 1 rfl (by kernel_rfl) (by kernel_rfl) (by kernel_rfl) rfl (fun _ _ _ h => h) hcl hcf (Or.inl ⟨by rfl, fun w _ => by (go_simp; with_reducible rfl)⟩) (fun hcl hcf => ?_)
    try simp only [Act.put, List.setIfInBounds_toArray, List.set_cons_zero, List.set_cons_succ] at hcl hcf ⊢
    refine takeL 2 rfl (by kernel_rfl) (by kernel_rfl) (by kernel_rfl) rfl (fun _ _ _ h => h) hcl hcf (Or.inl ⟨by rfl, fun w hup => by (obtain ⟨_, q1, q2, q3⟩ := hup; have hcell := CF.cell q1 q2 q3 1000 _ _ (.tail _ (.head _)) (by kernel_rfl); go_simp; with_reducible rfl)⟩) (fun hcl hcf => ?_)
    try simp only [Act.put, List.setIfInBounds_toArray, List.set_cons_zero, List.set_cons_succ] at hcl hcf ⊢
    refine takeL 3 rfl (by kernel_rfl) (by kernel_rfl) (by kernel_rfl) rfl (fun _ _ _ h => h) hcl hcf (Or.inl ⟨by rfl, fun w _ => by (go_simp; with_reducible rfl)⟩) (fun hcl hcf => ?_)
    try simp only [Act.put, List.setIfInBounds_toArray, List.set_cons_zero, List.set_cons_succ] at hcl hcf ⊢
    refine stepL [4] (by kernel_rfl) (by simp) hcl (fun hcl => AllReadyL.cons rfl (fun K hK => ?_) AllReadyL.nil)
    go_simp
    refine (hclone.out _ g8.drew).mono ?_
    rintro e w5 ⟨v5, rfl, how5, hb5⟩
    have hb5' : Below W.heap.size W w5 := ⟨hb5.os, hb5.tape, hb5.output, hb5.size, hb5.block⟩
    have hsz5 := hb5'.size
    have m2 := boxed_below g2 hb5'
    have m3 := boxed_below g3 hb5'
    have m6 := ownsRow_below g6 hb5'
    have m7 := g7.wrote (Wrote.of_below (M := []) hb5') (by simp)
    have m8 := g8.trans (hb5'.mono g8.size)
    have mD := (hb5'.block W0.heap.size (by omega)).trans hD
    have q2 := m2.cell
    have q2f := m2.frozen
    have q3 := m3.cell
    have q3f := m3.frozen
    obtain ⟨a6, c6, rfl, -⟩ := RowAt.of_own m6
    obtain ⟨a5, c5, rfl, -⟩ := RowAt.of_own how5
    refine hK.out _ _ (CF.below hcf (by decide) hb5) (fun hcf => ?_)
    clear hK K
    have hcl := hcl _ (List.mem_singleton.2 rfl)
    try simp only [Act.put, List.setIfInBounds_toArray, List.set_cons_zero, List.set_cons_succ] at hcl hcf ⊢
    refine stepL [5] (by kernel_rfl) (by simp) hcl (fun hcl => AllReadyL.cons rfl (fun K hK => ?_) AllReadyL.nil)
    go_simp
    refine hK.out _ _ (CF.store hcf (by decide) _ _ ?_) (fun hcf => ?_)
    · intro f hf he
      rcases List.mem_cons.1 hf with rfl | hf
      · exact absurd rfl he
      rcases List.mem_cons.1 hf with rfl | hf
      · simp; omega
      cases hf
    clear hK K
    have hcl := hcl _ (List.mem_singleton.2 rfl)
    try simp only [Act.put, List.setIfInBounds_toArray, List.set_cons_zero, List.set_cons_succ] at hcl hcf ⊢
    refine stepL [6] (by kernel_rfl) (by simp) hcl (fun hcl => AllReadyL.cons rfl (fun K hK => ?_) AllReadyL.nil)
    go_simp
    refine hK.out _ _ (CF.step hcf (by decide) (fun _ _ _ h => h)) (fun hcf => ?_)
    clear hK K
    have hcl := hcl _ (List.mem_singleton.2 rfl)
    try simp only [Act.put, List.setIfInBounds_toArray, List.set_cons_zero, List.set_cons_succ] at hcl hcf ⊢
    refine stepL [7] (by kernel_rfl) (by simp) hcl (fun hcl => AllReadyL.cons rfl (fun K hK => ?_) AllReadyL.nil)
    go_simp
    refine hK.out _ _ (CF.store hcf (by decide) _ _ ?_) (fun hcf => ?_)
    · intro f hf he
      rcases List.mem_cons.1 hf with rfl | hf
      · simp
      rcases List.mem_cons.1 hf with rfl | hf
      · simp
      cases hf
    clear hK K
    refine doneL (by kernel_rfl) (NoPanic.normal ?_) _
    go_wp2
    rw [Exit.noGoto_ret]
    have d1 := m2.set (.slice a6 xs.length c6)
    have d2 := d1.other (B' := w.heap.size + 1) (by omega) (.int .i64 0)
    have d3 := (m3.other (B' := w.heap.size) (by omega) (.slice a6 xs.length c6)).set (.int .i64 0)
    rw [hsz] at mD
    refine ret_mark (v := .tuple #[.slice a6 xs.length c6, .slice a5 (n - (l.length - r.length)) c5, .int .i64 0]) ?_ (fun w' hw' => ?_)
    · exact (Below.heap_setCell _ _ _ _ (by simp)).trans ((Below.heap_setCell _ _ _ _ (by simp)).trans mD)
    · have ww := (Wrote.setCell (M := [w.heap.size, w.heap.size + 1, w.heap.size + 5]) w5 ⟨w.heap.size, 0, none⟩ (by simp) (.slice a6 xs.length c6)).trans (Wrote.setCell (M := [w.heap.size, w.heap.size + 1, w.heap.size + 5]) _ ⟨w.heap.size + 1, 0, none⟩ (by simp) (.int .i64 0))
      have wp : Wrote [w.heap.size + 5] ((w5.setCell ⟨w.heap.size, 0, none⟩ (.slice a6 xs.length c6)).setCell ⟨w.heap.size + 1, 0, none⟩ (.int .i64 0)) w' := by rw [hw']; exact Wrote.putObj _ _ (by simp) _
      have d4 := (wp.boxed (by simp) d2).cell
      have d5 := (wp.boxed (by simp) d3).cell
      have wa := ww.trans (wp.sub (by simp))
      have hlr : n - (l.length - r.length) = r.length := by have := HL.out; omega
      refine ⟨by simp [results, Try.results26, go_sem, d4, d5], m8.trans (wa.below m8.size (by simp <;> omega)), xs.map (·.raw), r, g1, .inr ⟨HS1.out, HS2.out, _, _, vs, rfl, ?_, ?_, ?_⟩⟩
      · rw [List.length_map]
        exact ownsRow_mono (wa.row (by simp <;> omega) m6) (by omega)
      · exact (m7.wrote wa (by simp <;> omega)).map (fun v p h => ownsRow_mono h (by omega))
      · rw [g1.drop] at how5
        rw [hlr]
        rw [hlr] at how5
        exact ownsRow_mono (wa.row (base := W.drew.heap.size) (by show ∀ x ∈ _, x < W.heap.size; simp <;> omega) how5) (by show _ ≤ W.heap.size; omega)
  case stop =>
    rintro c pre W _ ⟨rfl, ov, ps, r, g1, g2, g3, g4, g5⟩ hl hD
    rw [hsz] at hl
    have c1 := g3.cell
    have c2 := g4.cell
    have f1 := g3.frozen
    have f2 := g4.frozen
    have e1 : (errL most r != 0) = true := by simpa using g2
    have HG2 := hid g2
    clear g2
    go_wp2_with fail
    go_region
    go_wp2
    rw [Exit.noGoto_ret]
    have d1 := g3.set (.slice none 0 0)
    have d2 := d1.other (B' := w.heap.size + 1) (by omega) (.int .i64 (errL most r))
    have d3 := (g4.other (B' := w.heap.size) (by omega) (.slice none 0 0)).set (.int .i64 (errL most r))
    refine ret_mark (v := .tuple #[.slice none 0 0, .slice none 0 0, .int .i64 (errL most r)]) ?_ (fun w' hw' => ?_)
    · exact (Below.heap_setCell _ _ _ _ (by simp; omega)).trans ((Below.heap_setCell _ _ _ _ (by simp; omega)).trans hD)
    · have hwr : Wrote [W0.heap.size] ((W.setCell ⟨w.heap.size, 0, none⟩ (.slice none 0 0)).setCell ⟨w.heap.size + 1, 0, none⟩ (.int .i64 (errL most r))).drew w' := by rw [hw']; exact Wrote.putObj _ _ (by simp) _
      have d4 := (hwr.boxed (by simp; omega) d2).cell
      have d5 := (hwr.boxed (by simp; omega) d3).cell
      refine ⟨by simp [results, Try.results26, go_sem, d4, d5], ?_, ps, r, g1, .inl ⟨HG2.out, rfl⟩⟩
      exact ((g5.setCell (p := ⟨w.heap.size, 0, none⟩) (by simp) _).setCell (p := ⟨w.heap.size + 1, 0, none⟩) (by simp) _).drew.trans (hwr.below (by have := g5.size; simp [World.setCell]; omega) (by simp; omega))
end Go.Proofs.Ytjgflihokbmhiaa
