/- Contracts of package inbox (part 5): count, Len. -/
import Derived.Test.YtodbdojjllabmaaGreatDoorInD
import Derived.Handy
import Derived.Test.YtodbdojjllabmaaGreatDoorRecE
import Derived.Test.YtodbdojjllabmaaGreatDoorRegB
namespace Go.Proofs.YtodbdojjllabmaaGreatDoor
open Go.RowKit Go.Shelf
attribute [local go_sem] Oper.semAt_some

def CntI (w : World) (pre : List Int) (W : World) : Prop := Boxed W w.heap.size 3 (.int .i64 (pre.length : Int)) ∧ Below w.heap.size w W
set_option maxRecDepth 100000 in
set_option maxHeartbeats 1000000 in
theorem in_count (s : Nat) (W0 : Nat → Nat) (w : World) (B : Nat) (hs : Blk w s (setCells W0) 109) (hW0 : ∀ i, W0 i < 18446744073709551616) (hT : TzAt w) (hb : Boxed w B 106 (.pointer (some ⟨s, 0, none⟩))) :
    Calls Tryz.prog 64 #[.func (.func 116) #[] #[.pointer (some ⟨B, 0, none⟩)]] w fun e w' => e = .returned (.int .i64 (tot 1024 W0)) ∧ Below w.heap.size w w' := by
  have hBl := hb.lt
  have hsl := hs.lt
  have hTl := hT.lt
  refine calls_marks Tryz.func64 rfl ?_
  simp only [Tryz.ntmps64, List.size_toArray, List.length_cons, List.length_nil, Nat.reduceAdd, Nat.reduceSub, Array.replicate_succ, Array.replicate_zero, List.push_toArray, List.append_toArray, List.nil_append, List.cons_append]
  go_wp2_with fail
  generalize hWa : w.alloc (Obj.cells #[Value.int IntKind.i64 0] 3) = Wa
  have hsz : Wa.heap.size = w.heap.size + 1 := by rw [← hWa]; simp
  have hb0 : Below w.heap.size w Wa := by rw [← hWa]; exact (Below.refl _ w).alloc (Nat.le_refl _) _
  have hbx : Boxed Wa w.heap.size 3 (.int .i64 0) := by rw [← hWa]; exact Boxed.new w 3 (.int .i64 0)
  have HWa := hid hWa; clear hWa
  refine wp_range (α := Int) (gf := 116) (lb := #[.pointer (some ⟨B, 0, none⟩)]) rfl (enters_of Tryz.func116 (by kernel_rfl) rfl)
    (n₀ := 0) (L := [B, s, 0]) (M := []) (in_each1 s W0 Wa B (hs.below hb0) hW0 (hT.below hb0) (boxed_below hb hb0))
    (Nat.zero_le _) (by simp; omega) (by simp) (fun _ => rfl) (CntI w) (fun _ _ _ => False) ?hI ?hIx ?h0
    (fun pre x a' W => pre.length < 65536 ∧ a' = { tmps := #[.func (.func 116) #[] #[.pointer (some ⟨B, 0, none⟩)], undef, .int .i64 0, .pointer (some ⟨w.heap.size, 0, none⟩), .func (.func 116) #[] #[.pointer (some ⟨B, 0, none⟩)], .int .i64 x, undef, undef, undef], defers := [] }) ?hAx ?assign ?body ?done ?stop
  case hI =>
    rintro s' A A' ⟨g1, g2⟩ hw
    rw [hsz] at hw
    exact ⟨hw.boxed (by simp <;> omega) g1, g2.trans (hw.below g2.size (by simp <;> omega))⟩
  case hIx => exact fun _ _ _ _ h _ => h.elim
  case h0 => exact ⟨hbx, hb0⟩
  case hAx =>
    rintro pre x a' A A' ⟨hx, rfl⟩ hl hw
    exact ⟨hx, rfl⟩
  case assign =>
    intro pre x W K hl hi hx hK
    refine wpIn_skip ?_
    exact hK _ _ (Below.refl _ _) hi ⟨hx, by simp [encI]⟩
  case body =>
    rintro pre x a' W hl ⟨g1, g2⟩ ⟨hx, rfl⟩
    have c1 := g1.cell
    have f1 := g1.frozen
    have hwr : IntKind.i64.wrap ((pre.length : Int) + 1) = ((pre ++ [x]).length : Int) := by rw [IntKind.wrap_i64]; simp; omega
    gi_wp2
    refine ⟨Keep.setCell _ _ (by simp) (by simp <;> omega) _, ?_, g2.setCell (p := ⟨w.heap.size, 0, none⟩) (by simp) _⟩
    have := g1.set (.int .i64 ((pre ++ [x]).length : Int))
    simpa using this
  case done =>
    rintro xs W hS ⟨g1, g2⟩ hl hD
    have c1 := g1.cell
    go_wp2
    refine ret_mark (v := .int .i64 (tot 1024 W0)) hD (fun w' hw' => ?_)
    have wp : Wrote [Wa.heap.size] W w' := by rw [hw']; exact Wrote.putObj _ _ (by simp) _
    have d4 := (wp.boxed (by simp; omega) g1).cell
    exact ⟨by simp [results, Tryz.results64, go_sem, d4], rfl, g2.trans (wp.below g2.size (by simp; omega))⟩
  case stop => exact fun _ _ _ _ h _ _ => h.elim

theorem Inb.below {w w' : World} {b s : Nat} {most : Int} {W : Nat → Nat} (h : Inb w b s most W) (hb : Below w.heap.size w w') : Inb w' b s most W := ⟨h.box.below hb, h.set.below hb⟩

set_option maxRecDepth 100000 in
set_option maxHeartbeats 400000 in
theorem in_Len (b s : Nat) (most : Int) (W : Nat → Nat) (ids : List Nat) (w : World) (hI : Inb w b s most W) (hS : SetIs W ids) (hT : TzAt w) :
    Calls Tryz.prog 39 #[.pointer (some ⟨b, 0, none⟩)] w fun e w' => e = .returned (.int .i64 ids.length) ∧ Below w.heap.size w w' := by
  have CN := in_none w b s most hI.at
  have k0 := hI.at.set
  have CE := in_each s w
  have CC := in_count s W (w.alloc (.cells #[.pointer (some ⟨s, 0, none⟩)] 106)) w.heap.size (hI.set.alloc _) hS.lt (hT.below ((Below.refl _ w).alloc (Nat.le_refl _) _)) (Boxed.new w 106 (.pointer (some ⟨s, 0, none⟩)))
  rw [hS.tot] at CC
  go_enter Tryz.func39, Tryz.ntmps39
  go_wp2_with (first
    | (go_at_call 50; refine CN.mono ?_; rintro e w1 ⟨rfl, rfl⟩)
    | (go_at_call 65; refine CE.mono ?_; rintro e w1 ⟨rfl, rfl⟩)
    | (go_at_call 64; refine CC.mono ?_; rintro e w1 ⟨rfl, hb⟩))
  go_ret
  exact ⟨rfl, ((Below.refl _ w).alloc (Nat.le_refl _) _).trans (hb.mono (by simp))⟩

/-- What a coming, or a going, leaves. -/
structure InPost (b s : Nat) (most : Int) (W : Nat → Nat) (ids : List Nat) (w' : World) : Prop where
  inb : Inb w' b s most W
  set : SetIs W ids

set_option maxRecDepth 100000 in
set_option maxHeartbeats 400000 in
/-- One that is fresh comes. -/
theorem in_Come (b s : Nat) (most : Int) (W : Nat → Nat) (ids : List Nat) (z : Int) (w : World) (hI : Inb w b s most W) (hS : SetIs W ids) (hT : TzAt w) (h0 : 1 ≤ z) (h1 : z ≤ 65535) (hg : s ≠ 0) (hnot : z.toNat ∉ ids) (hl : (ids.length : Int) < most) :
    Calls Tryz.prog 27 #[.pointer (some ⟨b, 0, none⟩), .int .i64 z] w fun e w' => e = .returned (.tuple #[.bool true, .int .i64 0]) ∧ Inb w' b s most (tog W z.toNat) ∧ Wrote [s] w w' := by
  have CN := in_none w b s most hI.at
  have CM := in_may z w
  have hm : mayI z = true := by simp [mayI, h0, h1]
  rw [hm] at CM
  have CH := in_Has b s most W ids z w hI hS h0 h1
  have hd : decide (z.toNat ∈ ids) = false := decide_eq_false hnot
  rw [hd] at CH
  obtain ⟨n, hn⟩ : ∃ n : Int, (ids.length : Int) = n := ⟨_, rfl⟩
  have CL := hid fun (w1 : World) (hb : Below w.heap.size w w1) => in_Len b s most W ids w1 (hI.below hb) hS (hT.below hb)
  rw [hn] at CL
  have CT := hid fun (w1 : World) (hI : Inb w1 b s most W) => in_turn b s most W z w1 hI hS.lt h0 h1
  have kd : decide (most ≤ n) = false := decide_eq_false (by omega)
  clear hd hn hl
  go_enter Tryz.func27, Tryz.ntmps27
  go_wp2
  refine wp_scope_straight ?_
  go_wp2_with (first
    | (go_at_call 50; refine CN.mono ?_; rintro e w1 ⟨rfl, rfl⟩)
    | (go_at_call 51; refine CM.mono ?_; rintro e w1 ⟨rfl, rfl⟩)
    | (go_at_call 52; refine CH.mono ?_; rintro e w1 ⟨rfl, hb⟩))
  have kb : w1.cell? ⟨b, 1, none⟩ = some (.int .i64 most) := (hI.below hb).at.most
  clear CH CM CN
  refine regionQ [(1000, fun w' => w'.cell? ⟨b, 1, none⟩ = some (.int .i64 most))] (by kernel_rfl) ⟨by go_simp, trivial⟩ fun KQ hKQ => ?_
  refine takeQ 0 rfl (by kernel_rfl) rfl (by kernel_rfl) fun K hK => ?_
  simp only [List.getElem_toArray, List.getElem_cons_zero, List.getElem_cons_succ]
  go_big_quiet_op
  refine hK _ ?_
  clear hK K
  refine takeQ 2 rfl (by kernel_rfl) rfl (by kernel_rfl) fun K hK => ?_
  simp only [List.getElem_toArray, List.getElem_cons_zero, List.getElem_cons_succ]
  go_big_quiet_op
  refine hK _ ?_
  clear hK K
  refine nilQ 3 rfl (by kernel_rfl) (by kernel_rfl) rfl rfl ?_
  simp only [Act.put, List.getElem_toArray, List.getElem_cons_zero, List.getElem_cons_succ, List.setIfInBounds_toArray, List.set_cons_zero, List.set_cons_succ]
  refine takeQ 4 rfl (by kernel_rfl) rfl (by kernel_rfl) fun K hK => ?_
  simp only [List.getElem_toArray, List.getElem_cons_zero, List.getElem_cons_succ]
  go_big_quiet_op
  refine hK _ ?_
  clear hK K
  refine loadQ 5 rfl (by kernel_rfl) (by kernel_rfl) rfl rfl 0 rfl (by kernel_rfl) _ (fun w' hf => by (go_simp <;> with_reducible rfl)) ?_
  simp only [Act.put, List.getElem_toArray, List.getElem_cons_zero, List.getElem_cons_succ, List.setIfInBounds_toArray, List.set_cons_zero, List.set_cons_succ]
  refine stepQ 1 rfl (by kernel_rfl) (by decide) (by kernel_rfl) fun K hK => ?_
  simp only [List.getElem_toArray, List.getElem_cons_zero, List.getElem_cons_succ]
  go_simp
  refine (CL.out _ hb.drew).mono ?_
  rintro e w2 ⟨rfl, hb2⟩
  replace hb2 := hb.trans ((undrew hb2).mono hb.size)
  refine hK _ _ ⟨⟨fun _ => (hI.below hb2).at.most, trivial⟩, ?_⟩
  clear hK K
  refine takeQ 6 rfl (by kernel_rfl) rfl (by kernel_rfl) fun K hK => ?_
  simp only [List.getElem_toArray, List.getElem_cons_zero, List.getElem_cons_succ]
  go_big_quiet_op
  refine hK _ ?_
  clear hK K
  refine doneQ (by kernel_rfl) (hKQ.out _ _ ?_)
  clear hKQ KQ
  go_wp2_with (go_at_call 53; refine (CT.out _ (hI.below hb2)).mono ?_; rintro e w3 ⟨rfl, hi3, hw3⟩)
  simp only [Exit.noGoto_ret]
  go_returns
  exact ⟨rfl, hi3, (Wrote.of_below hb2).trans hw3⟩

set_option maxRecDepth 100000 in
set_option maxHeartbeats 400000 in
/-- One that is there goes. -/
theorem in_Go (b s : Nat) (most : Int) (W : Nat → Nat) (ids : List Nat) (z : Int) (w : World) (hI : Inb w b s most W) (hS : SetIs W ids) (h0 : 1 ≤ z) (h1 : z ≤ 65535) (hin : z.toNat ∈ ids) :
    Calls Tryz.prog 114 #[.pointer (some ⟨b, 0, none⟩), .int .i64 z] w fun e w' => e = .returned (.tuple #[.bool true, .int .i64 0]) ∧ Inb w' b s most (tog W z.toNat) ∧ Wrote [s] w w' := by
  have CN := in_none w b s most hI.at
  have CM := in_may z w
  have hm : mayI z = true := by simp [mayI, h0, h1]
  rw [hm] at CM
  have CH := in_Has b s most W ids z w hI hS h0 h1
  have hd : decide (z.toNat ∈ ids) = true := decide_eq_true hin
  rw [hd] at CH
  have CT := hid fun (w1 : World) (hI : Inb w1 b s most W) => in_turn b s most W z w1 hI hS.lt h0 h1
  clear hd
  go_enter Tryz.func114, Tryz.ntmps114
  go_wp2_with (first
    | (go_at_call 50; refine CN.mono ?_; rintro e w1 ⟨rfl, rfl⟩)
    | (go_at_call 51; refine CM.mono ?_; rintro e w1 ⟨rfl, rfl⟩)
    | (go_at_call 52; refine CH.mono ?_; rintro e w1 ⟨rfl, hb⟩)
    | (go_at_call 53; refine (CT.out _ (hI.below hb)).mono ?_; rintro e w3 ⟨rfl, hi3, hw3⟩))
  go_returns
  exact ⟨rfl, hi3, (Wrote.of_below hb).trans hw3⟩
end Go.Proofs.YtodbdojjllabmaaGreatDoor
