/- Contracts of package utf: Wrong, Check. -/
import Derived.Test.YtodbdojjllabmaaGreatDoorUtfD
namespace Go.Proofs.YtodbdojjllabmaaGreatDoor
open Go.RowKit Go.Shelf
attribute [local go_sem] Oper.semAt_some

/-- Where a text is wrong; -1: nowhere. -/
def wrongU (s : List UInt8) : Int := match (runesL s 0).2 with
  | none => -1
  | some p => p

theorem firstF_ne (s : List UInt8) (p : Nat) (h : badR s p = false) : (firstF s).1 ≠ 0 ∧ 0 < (firstF s).2 ∧ p + (firstF s).2 ≤ 65535 ∧ mayR (firstF s).1 = true ∧ (firstF s).1 ≤ 1114111 ∧ (firstF s).2 = lenR (firstF s).1 := by
  simp only [badR, Bool.or_eq_false_iff, decide_eq_false_iff_not] at h
  rcases firstF_spec s with h' | ⟨r, n, h', h1, h2, h3, _⟩
  · rw [h'] at h; exact absurd rfl h.1
  · rw [h'] at h ⊢
    refine ⟨h1, by omega, by omega, h2, ?_, h3⟩
    have := (mayR_iff r).1 h2
    dsimp only
    omega

theorem RuneNx.cases {s : List UInt8} {pre : List (Nat × Nat)} {x : Nat × Nat} {W : World} (h : RuneNx s pre x W) : (x.2 = 0 ∧ (runesL s 0).2 = some x.1 ∧ (runesL s 0).1 = pre.map (·.2)) ∨ (x.2 ≠ 0 ∧ x.2 ≤ 1114111) := by
  obtain ⟨s', p', hch, hne, ⟨hb, rfl⟩ | ⟨hb, rfl⟩⟩ := h
  · refine .inl ⟨rfl, ?_⟩
    rw [hch.runes, runesL_bad s' p' hne hb]
    simp
  · exact .inr ⟨(firstF_ne s' p' hb).1, (firstF_ne s' p' hb).2.2.2.2.1⟩
theorem RuneS.cases {s : List UInt8} {xs : List (Nat × Nat)} (h : RuneS s xs) : ((runesL s 0).2 = none ∧ (runesL s 0).1 = xs.map (·.2)) ∨ ∃ x ∈ xs, x.2 = 0 := by
  rcases h with ⟨p', hch⟩ | ⟨pre, s', p', hch, hne, hb, rfl⟩
  · refine .inl ?_
    rw [hch.runes]
    simp [runesL_nil]
  · exact .inr ⟨(p', 0), by simp, rfl⟩

def WrongI (w : World) (pre : List (Nat × Nat)) (W : World) : Prop := (∀ x ∈ pre, x.2 ≠ 0) ∧ Boxed W w.heap.size 3 (.int .i64 0) ∧ Below w.heap.size w W
def WrongX (s : List UInt8) (w : World) (c : Code) (_pre : List (Nat × Nat)) (W : World) : Prop := c = .ret ∧ Boxed W w.heap.size 3 (.int .i64 (wrongU s)) ∧ Below w.heap.size w W

set_option maxRecDepth 100000 in
set_option maxHeartbeats 1000000 in
theorem utf_Wrong (s : List UInt8) (w : World) (hs : s.length ≤ 1000000) :
    Calls Tryz.prog 137 #[.string ⟨s.toArray⟩] w fun e w' => e = .returned (.int .i64 (wrongU s)) ∧ Below w.heap.size w w' := by
  refine calls_marks Tryz.func137 rfl ?_
  simp only [Tryz.ntmps137, List.size_toArray, List.length_cons, List.length_nil, Nat.reduceAdd, Nat.reduceSub, Array.replicate_succ, Array.replicate_zero, List.push_toArray, List.append_toArray, List.nil_append, List.cons_append]
  go_wp2_with fail
  refine (utf_runes s _).mono ?_
  rintro e w' ⟨rfl, rfl⟩
  go_wp2_with fail
  generalize hW0 : ((w.alloc (Obj.cells #[Value.int IntKind.i64 0] 3)).alloc (Obj.cells #[Value.string ⟨s.toArray⟩] 9)) = W0
  have hsz : W0.heap.size = w.heap.size + 2 := by rw [← hW0]; simp
  have hb0 : Below w.heap.size w W0 := by
    rw [← hW0]
    exact ((Below.refl _ w).alloc (Nat.le_refl _) _).alloc (by simp) _
  have hbx : Boxed W0 w.heap.size 3 (.int .i64 0) ∧ Boxed W0 (w.heap.size + 1) 9 (.string ⟨s.toArray⟩) := by
    have e1 := Boxed.new w 3 (.int .i64 0)
    have e2 := Boxed.new (w.alloc (Obj.cells #[Value.int IntKind.i64 0] 3)) 9 (.string ⟨s.toArray⟩)
    simp only [World.size_alloc] at e2
    rw [← hW0]
    exact ⟨e1.alloc _, e2⟩
  obtain ⟨b1, b2⟩ := hbx
  have HW0 := hid hW0; clear hW0
  refine wp_range (α := Nat × Nat) (gf := 157) (lb := #[.pointer (some ⟨w.heap.size + 1, 0, none⟩)]) rfl (enters_of Tryz.func157 (by kernel_rfl) rfl)
    (n₀ := w.heap.size) (L := [w.heap.size + 1]) (M := []) (utf_runes1 s w W0 (w.heap.size + 1) hs (by omega) hb0 b2)
    (by omega) (by simp; omega) (by simp) (fun _ => rfl) (WrongI w) (WrongX s w) ?hI ?hIx ?h0
    (fun pre x a' W => RuneNx s pre x W ∧ a' = { tmps := #[.string ⟨s.toArray⟩, undef, .pointer (some ⟨w.heap.size, 0, none⟩), .int .i64 x.1, .int .i32 x.2, .string ⟨s.toArray⟩, .func (.func 157) #[] #[.pointer (some ⟨w.heap.size + 1, 0, none⟩)], .int .i64 x.1, .int .i32 x.2, undef, undef, undef], defers := [] }) ?hAx ?assign ?body ?done ?stop
  case hI =>
    rintro s A A' ⟨g1, g2, g3⟩ hw
    rw [hsz] at hw
    exact ⟨g1, hw.boxed (by simp <;> omega) g2, g3.trans (hw.below g3.size (by simp <;> omega))⟩
  case hIx =>
    rintro c s A A' ⟨rfl, g1, g2⟩ hw
    rw [hsz] at hw
    exact ⟨rfl, hw.boxed (by simp <;> omega) g1, g2.trans (hw.below g2.size (by simp <;> omega))⟩
  case h0 => exact ⟨by simp, b1, hb0⟩
  case hAx =>
    rintro pre x a' A A' ⟨hx, rfl⟩ hl hw
    exact ⟨hx, rfl⟩
  case assign =>
    intro pre x W K hl hi hx hK
    simp only [encU]
    gi_wp2
    refine hK _ _ (Below.refl _ _) hi ⟨hx, rfl⟩
  case body =>
    rintro pre x a' W hl ⟨g1, g2, g3⟩ ⟨hx, rfl⟩
    have c1 := g2.cell
    have f1 := g2.frozen
    rcases hx.cases with ⟨h1, h2, _⟩ | ⟨h1, h2⟩
    · have hwr : wrongU s = x.1 := by unfold wrongU; rw [h2]
      have HW := hid hwr
      obtain ⟨x1, x2⟩ := x
      dsimp only at h1
      subst h1
      clear h2 hwr
      gi_wp2
      refine ⟨Keep.setCell _ _ (by simp) (by simp <;> omega) _, rfl, ?_, g3.setCell (p := ⟨w.heap.size, 0, none⟩) (by simp) _⟩
      rw [HW.out]
      exact g2.set _
    · have e1 : ((x.2 : Int) == 0) = false := by simp; omega
      gi_wp2
      exact ⟨Keep.refl _ _ _, fun y hy => by rcases List.mem_append.1 hy with hy | hy; exact g1 y hy; rw [List.mem_singleton.1 hy]; exact h1, g2, g3⟩
  case done =>
    rintro xs W hS ⟨g1, g2, g3⟩ hl hD
    rw [hsz] at hl
    have hwr : wrongU s = -1 := by
      rcases hS.cases with ⟨h, _⟩ | ⟨x, hx, h⟩
      · unfold wrongU; rw [h]
      · exact absurd h (g1 x hx)
    have HW := hid hwr
    clear hwr hS
    have c1 := g2.cell
    have f1 := g2.frozen
    go_wp2
    have d1 : Boxed (W.setCell ⟨w.heap.size, 0, none⟩ (.int .i64 (-1))) w.heap.size 3 (.int .i64 (-1)) := g2.set _
    refine ret_mark (v := .int .i64 (-1)) ?_ (fun w' hw' => ?_)
    · exact (Below.heap_setCell _ _ _ _ (by simp; omega)).trans hD
    · have wp : Wrote [W0.heap.size] (W.setCell ⟨w.heap.size, 0, none⟩ (.int .i64 (-1))) w' := by rw [hw']; exact Wrote.putObj _ _ (by simp) _
      have d4 := (wp.boxed (by simp; omega) d1).cell
      have hb : Below w.heap.size w (W.setCell ⟨w.heap.size, 0, none⟩ (.int .i64 (-1))) := g3.setCell (p := ⟨w.heap.size, 0, none⟩) (by simp) _
      exact ⟨by simp [results, Tryz.results137, go_sem, d4], by first | rfl | rw [HW.out], hb.trans (wp.below hb.size (by simp; omega))⟩
  case stop =>
    rintro c pre W _ ⟨rfl, g1, g2⟩ hl hD
    rw [hsz] at hl
    have c1 := g1.cell
    have f1 := g1.frozen
    go_wp2
    have d1 : Boxed W w.heap.size 3 (.int .i64 (wrongU s)) := g1
    refine ret_mark (v := .int .i64 (wrongU s)) ?_ (fun w' hw' => ?_)
    · exact hD
    · have wp : Wrote [W0.heap.size] W w' := by rw [hw']; exact Wrote.putObj _ _ (by simp) _
      have d4 := (wp.boxed (by simp; omega) d1).cell
      have hb : Below w.heap.size w W := g2
      exact ⟨by simp [results, Tryz.results137, go_sem, d4], by first | rfl | rw [HW.out], hb.trans (wp.below hb.size (by simp; omega))⟩

def checkU (s : List UInt8) : Int := if 0 ≤ wrongU s then 220 else 0
theorem wrongU_lo (s : List UInt8) : -1 ≤ wrongU s := by unfold wrongU; split <;> omega

set_option maxRecDepth 100000 in
set_option maxHeartbeats 400000 in
theorem utf_Check (s : List UInt8) (w : World) (hs : s.length ≤ 1000000) :
    Calls Tryz.prog 125 #[.string ⟨s.toArray⟩] w fun e w' => e = .returned (.int .i64 (checkU s)) ∧ Below w.heap.size w w' := by
  unfold checkU
  by_cases h : 0 ≤ wrongU s
  · rw [if_pos h]
    go_enter Tryz.func125, Tryz.ntmps125
    go_wp2_with (go_at_call 137; refine (utf_Wrong s _ hs).mono ?_; rintro e w1 ⟨rfl, hb⟩)
    go_ret
    exact ⟨rfl, hb⟩
  · rw [if_neg h]
    go_enter Tryz.func125, Tryz.ntmps125
    go_wp2_with (go_at_call 137; refine (utf_Wrong s _ hs).mono ?_; rintro e w1 ⟨rfl, hb⟩)
    go_ret
    exact ⟨rfl, hb⟩

end Go.Proofs.YtodbdojjllabmaaGreatDoor
