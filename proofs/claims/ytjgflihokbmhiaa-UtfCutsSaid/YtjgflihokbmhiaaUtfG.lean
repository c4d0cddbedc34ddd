/- Contracts of package utf: Runes, Cut. -/
import Derived.Test.YtjgflihokbmhiaaUtfF
import Derived.Test.YtjgflihokbmhiaaApp
namespace Go.Proofs.Ytjgflihokbmhiaa
open Go.RowKit Go.Shelf
attribute [local go_sem] Oper.semAt_some

theorem Try.eI32 : ElemT Try.prog 36 21 (.int .i32 0) 1 4 := ⟨Try.underlying36, by kernel_rfl, rfl⟩

/-- The runes of a text, as numbers. -/
def runesI (s : List UInt8) : List Int := (runesL s 0).1.map fun (r : Nat) => (r : Int)
theorem runesL_len (s : List UInt8) (p : Nat) : (runesL s p).1.length ≤ s.length := by
  have key : ∀ f (s : List UInt8) p, (runesF f s p).1.length ≤ f := by
    intro f
    induction f with
    | zero => intros; simp [runesF]
    | succ f ih =>
      intro s p
      unfold runesF
      split
      · simp
      · split
        · simp
        · have := ih (s.drop (firstF s).2) (p + (firstF s).2)
          simp only [List.length_cons]
          omega
  exact key _ _ _
theorem ChainU.len {s : List UInt8} {p : Nat} {pre : List (Nat × Nat)} {s' : List UInt8} {p' : Nat} (h : ChainU s p pre s' p') : pre.length ≤ s.length := by
  have h1 := h.runes
  have h2 := runesL_len s p
  rw [h1] at h2
  simp at h2
  omega
theorem RuneNx.len {s : List UInt8} {pre : List (Nat × Nat)} {x : Nat × Nat} {W : World} (h : RuneNx s pre x W) : pre.length ≤ s.length := by
  obtain ⟨s', p', hch, _⟩ := h
  exact hch.len

def RunesI (w : World) (pre : List (Nat × Nat)) (W : World) : Prop :=
  (∃ v, Boxed W w.heap.size 36 v ∧ W.ownsRow (w.heap.size + 4) 21 1 v pre.length (ns .i32 (pre.map fun x => (x.2 : Int)))) ∧ Below w.heap.size w W

theorem ns_snoc (k : IntKind) (l : List Int) (x : Int) : ns k l ++ [.int k x] = ns k (l ++ [x]) := by simp [ns]

set_option maxRecDepth 100000 in
set_option maxHeartbeats 1000000 in
theorem utf_Runes (s : List UInt8) (w : World) (hs : s.length ≤ 1000000) (hw : wrongU s = -1) :
    Calls Try.prog 27 #[.string ⟨s.toArray⟩] w fun e w' => ∃ v, e = .returned (.tuple #[v, .int .i64 0]) ∧ w'.ownsRow w.heap.size 21 1 v (runesI s).length (ns .i32 (runesI s)) ∧ Below w.heap.size w w' := by
  have HC := hid (utf_Check s w hs)
  rw [show checkU s = 0 by unfold checkU; rw [hw]; rfl] at HC
  have HW := hid hw; clear hw
  refine calls_marks Try.func27 rfl ?_
  simp only [Try.ntmps27, List.size_toArray, List.length_cons, List.length_nil, Nat.reduceAdd, Nat.reduceSub, Array.replicate_succ, Array.replicate_zero, List.push_toArray, List.append_toArray, List.nil_append, List.cons_append]
  go_wp2_with fail
  refine HC.out.mono ?_
  rintro e w1 ⟨rfl, hb1⟩
  clear HC
  go_wp2_with fail
  refine (utf_runes s _).mono ?_
  rintro e w' ⟨rfl, rfl⟩
  go_wp2_with fail
  generalize hW0 : ((w1.alloc (Obj.cells #[Value.slice none 0 0] 36)).alloc (Obj.cells #[Value.string ⟨s.toArray⟩] 9)) = W0
  have hsz : W0.heap.size = w1.heap.size + 2 := by rw [← hW0]; simp
  have hb0 : Below w1.heap.size w1 W0 := by
    rw [← hW0]
    exact ((Below.refl _ w1).alloc (Nat.le_refl _) _).alloc (by simp) _
  have hbx : Boxed W0 w1.heap.size 36 (.slice none 0 0) ∧ Boxed W0 (w1.heap.size + 1) 9 (.string ⟨s.toArray⟩) := by
    have e1 := Boxed.new w1 36 (.slice none 0 0)
    have e2 := Boxed.new (w1.alloc (Obj.cells #[.slice none 0 0] 36)) 9 (.string ⟨s.toArray⟩)
    simp only [World.size_alloc] at e2
    rw [← hW0]
    exact ⟨e1.alloc _, e2⟩
  obtain ⟨b1, b2⟩ := hbx
  have HW0 := hid hW0; clear hW0
  refine wp_range (α := Nat × Nat) (gf := 55) (lb := #[.pointer (some ⟨w1.heap.size + 1, 0, none⟩)]) rfl (enters_of Try.func55 (by kernel_rfl) rfl)
    (n₀ := 0) (L := [w1.heap.size + 1]) (M := []) (utf_runes0 s W0 (w1.heap.size + 1) hs b2)
    (Nat.zero_le _) (by simp; omega) (by simp) (fun _ => rfl) (RunesI w1) (fun _ _ _ => False) ?hI ?hIx ?h0
    (fun pre x a' W => RuneNx s pre x W ∧ a' = { tmps := #[.string ⟨s.toArray⟩, undef, .slice none 0 0, .int .i64 0, .int .i64 0, .pointer (some ⟨w1.heap.size, 0, none⟩), undef, .int .i32 x.2, .string ⟨s.toArray⟩, .int .i64 0, .int .i64 0, .bool false, undef, .string ⟨s.toArray⟩,
      .func (.func 55) #[] #[.pointer (some ⟨w1.heap.size + 1, 0, none⟩)], .int .i64 x.1, .int .i32 x.2, undef, undef, undef, undef, undef], defers := [] }) ?hAx ?assign ?body ?done ?stop
  case hI =>
    rintro s A A' ⟨⟨v, g1, g2⟩, g3⟩ hw
    rw [hsz] at hw
    exact ⟨⟨v, hw.boxed (by simp <;> omega) g1, hw.row (by simp <;> omega) g2⟩, g3.trans (hw.below g3.size (by simp <;> omega))⟩
  case hIx => rintro c s A A' h hw; exact h
  case h0 => exact ⟨⟨_, b1, World.ownsRow_nil _ _ _ _⟩, hb0⟩
  case hAx =>
    rintro pre x a' A A' ⟨hx, rfl⟩ hl hw
    exact ⟨hx, rfl⟩
  case assign =>
    intro pre x W K hl hi hx hK
    simp only [encU]
    gi_wp2
    refine hK _ _ (Below.refl _ _) hi ⟨hx, rfl⟩
  case body =>
    rintro pre x a' W hl ⟨⟨v, g1, g2⟩, g3⟩ ⟨hx, rfl⟩
    rw [hsz] at hl ⊢
    have c1 := g1.cell
    have f1 := g1.frozen
    have hpl := hx.len
    gi_wp2_with (gi_at_builtin; refine appendIn_one rfl _ _ rfl Try.eI32 (w1.heap.size + 4) v pre.length _ rfl g2 (.int .i32 x.2) rfl rfl (by omega) (by omega) (by omega) ?_; intro v' w' how' hg'; have k1 := g1.kept hg' (g1.not_row (by decide) g2); have kc := k1.cell; have kf := k1.frozen; obtain ⟨a', c', rfl, -⟩ := RowAt.of_own how')
    refine ⟨?_, ⟨.slice a' (pre.length + 1) c', k1.set _, ?_⟩, ?_⟩
    · refine (Keep.grown hg' (Nat.zero_le _) (fun k e => ⟨Nat.zero_le _, ?_⟩) (by simp; omega)).trans (Keep.setCell _ _ (Nat.zero_le _) (by simp; omega) _)
      have := (g2.lt k e).1
      simp; omega
    · rw [List.length_append, List.map_append]
      rw [ns_snoc] at how'
      exact ownsRow_setCell_other how' (a := ⟨w1.heap.size, 0, none⟩) (fun e => by have := (how'.lt _ e).1; simp at this; omega) _
    · exact (g3.grown hg' g3.size (fun k e => by have := (g2.lt k e).1; omega)).setCell (p := ⟨w1.heap.size, 0, none⟩) (by simp) _
  case done =>
    rintro xs W hS ⟨⟨v, g1, g2⟩, g3⟩ hl hD
    rw [hsz] at hl
    have hxs : runesI s = xs.map fun x => (x.2 : Int) := by
      rcases hS with ⟨p', hch⟩ | ⟨pre, s', p', hch, hne, hb, rfl⟩
      · unfold runesI
        rw [hch.runes]
        simp [runesL_nil]
      · exfalso
        have h1 := HW.out
        unfold wrongU at h1
        rw [hch.runes, runesL_bad s' p' hne hb] at h1
        simp at h1
    have HX := hid hxs
    clear hS hxs
    have c1 := g1.cell
    have f1 := g1.frozen
    obtain ⟨av, cv, rfl, -⟩ := RowAt.of_own g2
    go_wp2
    refine ret_mark (v := .tuple #[.slice av xs.length cv, .int .i64 0]) hD (fun w' hw' => ?_)
    have wp : Wrote [W0.heap.size] W w' := by rw [hw']; exact Wrote.putObj _ _ (by simp) _
    refine ⟨by simp [results, Try.results27, go_sem], _, rfl, ?_, ?_⟩
    · rw [HX.out, List.length_map]
      exact ownsRow_mono (wp.row (by simp; omega) g2) (by have := hb1.size; omega)
    · exact hb1.trans ((g3.trans (wp.below g3.size (by simp; omega))).mono hb1.size)
  case stop => rintro c pre W _ h; exact h.elim

set_option maxRecDepth 100000 in
set_option maxHeartbeats 400000 in
theorem utf_Runes_no (s : List UInt8) (w : World) (hs : s.length ≤ 1000000) (hw : 0 ≤ wrongU s) :
    Calls Try.prog 27 #[.string ⟨s.toArray⟩] w fun e w' => e = .returned (.tuple #[.slice none 0 0, .int .i64 220]) ∧ Below w.heap.size w w' := by
  have HC := hid (utf_Check s w hs)
  rw [show checkU s = 220 by unfold checkU; rw [if_pos hw]] at HC
  clear hw
  go_enter Try.func27, Try.ntmps27
  go_wp2_with fail
  refine HC.out.mono ?_
  rintro e w1 ⟨rfl, hb1⟩
  go_wp2
  go_ret2
  exact ⟨rfl, hb1⟩

/-- How many bytes the first runes have that fit. -/
def cutN (most : Int) : Nat → List Nat → Nat
  | p, [] => p
  | p, r :: l => if (p : Int) + lenR r ≤ most then cutN most (p + lenR r) l else p
def cutU (s : List UInt8) (most : Int) : Nat := cutN most 0 (runesL s 0).1
theorem ChainU.fn {s : List UInt8} {p : Nat} {pre : List (Nat × Nat)} {s' s'' : List UInt8} {p' p'' : Nat} (h : ChainU s p pre s' p') (k : ChainU s p pre s'' p'') : s' = s'' ∧ p' = p'' := by
  induction pre generalizing s p with
  | nil => obtain ⟨rfl, rfl⟩ := h; exact k
  | cons x pre ih => exact ih h.2.2.2 k.2.2.2
theorem ChainU.cut {s : List UInt8} {p : Nat} {pre : List (Nat × Nat)} {s' : List UInt8} {p' : Nat} {most : Int} (h : ChainU s p pre s' p') (hm : (p' : Int) ≤ most) (l : List Nat) : cutN most p (pre.map (·.2) ++ l) = cutN most p' l := by
  induction pre generalizing s p with
  | nil => obtain ⟨rfl, rfl⟩ := h; rfl
  | cons x pre ih =>
    obtain ⟨h1, h2, h3, h4⟩ := h
    have h5 := (firstF_ne s p h2).2.2.2.2.2
    have h6 := h4.drop.1
    subst h3
    simp only [List.map_cons, List.cons_append, cutN]
    rw [if_pos (by omega), ← h5]
    exact ih h4

def CutI (s : List UInt8) (most : Int) (w : World) (B : Nat) (pre : List (Nat × Nat)) (W : World) : Prop :=
  ∃ s' p', ChainU s 0 pre s' p' ∧ (p' : Int) ≤ most ∧ Boxed W w.heap.size 3 (.int .i64 most) ∧ Boxed W B 3 (.int .i64 p') ∧ Below w.heap.size w W
def CutX (s : List UInt8) (most : Int) (w : World) (B : Nat) (c : Code) (_pre : List (Nat × Nat)) (W : World) : Prop :=
  c = .exit 1 ∧ cutU s most ≤ s.length ∧ Boxed W B 3 (.int .i64 (cutU s most)) ∧ Below w.heap.size w W
set_option maxRecDepth 100000 in
set_option maxHeartbeats 1000000 in
theorem utf_Cut (s : List UInt8) (most : Int) (w : World) (hs : s.length ≤ 1000000) (hw : wrongU s = -1) (hm : 0 ≤ most) :
    Calls Try.prog 18 #[.string ⟨s.toArray⟩, .int .i64 most] w fun e w' => e = .returned (.tuple #[.string ⟨(s.take (cutU s most)).toArray⟩, .int .i64 0]) ∧ Below w.heap.size w w' := by
  have HC := hid (fun W => utf_Check s W hs)
  rw [show checkU s = 0 by unfold checkU; rw [hw]; rfl] at HC
  have HW := hid hw; clear hw
  refine calls_marks Try.func18 rfl ?_
  simp only [Try.ntmps18, List.size_toArray, List.length_cons, List.length_nil, Nat.reduceAdd, Nat.reduceSub, Array.replicate_succ, Array.replicate_zero, List.push_toArray, List.append_toArray, List.nil_append, List.cons_append]
  go_wp2_with fail
  refine (HC.out _).mono ?_
  rintro e w1 ⟨rfl, hb1⟩
  clear HC
  go_wp2_with fail
  refine (utf_runes s _).mono ?_
  rintro e w' ⟨rfl, rfl⟩
  go_wp2_with fail
  generalize hW0 : ((w1.alloc (Obj.cells #[Value.int IntKind.i64 0] 3)).alloc (Obj.cells #[Value.string ⟨s.toArray⟩] 9)) = W0
  have hsz : W0.heap.size = w1.heap.size + 2 := by rw [← hW0]; simp
  have hb0 : Below w1.heap.size w1 W0 := by
    rw [← hW0]
    exact ((Below.refl _ w1).alloc (Nat.le_refl _) _).alloc (by simp) _
  have hbx : Boxed W0 w1.heap.size 3 (.int .i64 0) ∧ Boxed W0 (w1.heap.size + 1) 9 (.string ⟨s.toArray⟩) := by
    have e1 := Boxed.new w1 3 (.int .i64 0)
    have e2 := Boxed.new (w1.alloc (Obj.cells #[.int .i64 0] 3)) 9 (.string ⟨s.toArray⟩)
    simp only [World.size_alloc] at e2
    rw [← hW0]
    exact ⟨e1.alloc _, e2⟩
  obtain ⟨b1, b2⟩ := hbx
  have hs1 : w.heap.size + 1 ≤ w1.heap.size := by have := hb1.size; simpa using this
  have b0 : Boxed W0 w.heap.size 3 (.int .i64 most) := boxed_below (boxed_below (Boxed.new w 3 (.int .i64 most)) hb1) hb0
  have hbw : Below w.heap.size w W0 := ((Below.refl _ w).alloc (Nat.le_refl _) _).trans ((hb1.trans (hb0.mono (by simpa using hs1))).mono (by simp))
  have HW0 := hid hW0; clear hW0
  refine wp_range (α := Nat × Nat) (gf := 55) (lb := #[.pointer (some ⟨w1.heap.size + 1, 0, none⟩)]) rfl (enters_of Try.func55 (by kernel_rfl) rfl)
    (n₀ := 0) (L := [w1.heap.size + 1]) (M := []) (utf_runes0 s W0 (w1.heap.size + 1) hs b2)
    (Nat.zero_le _) (by simp; omega) (by simp) (fun _ => rfl) (CutI s most w w1.heap.size) (CutX s most w w1.heap.size) ?hI ?hIx ?h0
    (fun pre x a' W => RuneNx s pre x W ∧ a' = { tmps := #[.string ⟨s.toArray⟩, .int .i64 most, undef, .pointer (some ⟨w.heap.size, 0, none⟩), .string ⟨#[]⟩, .int .i64 0, .pointer (some ⟨w1.heap.size, 0, none⟩), .int .i64 x.1, .int .i32 x.2,
      .bool (decide (most < 0)), .int .i64 most, .bool (decide (most < 0)), .bool false, .string ⟨s.toArray⟩, .int .i64 0, .bool false, .string ⟨s.toArray⟩,
      .func (.func 55) #[] #[.pointer (some ⟨w1.heap.size + 1, 0, none⟩)], .int .i64 x.1, .int .i32 x.2, undef, undef, undef, undef, undef, undef, undef, undef, undef, undef, undef, undef, undef], defers := [] }) ?hAx ?assign ?body ?done ?stop
  case hI =>
    rintro s A A' ⟨s', p', g1, g2, g3, g4, g5⟩ hw
    rw [hsz] at hw
    exact ⟨s', p', g1, g2, hw.boxed (by simp <;> omega) g3, hw.boxed (by simp <;> omega) g4, g5.trans (hw.below g5.size (by simp <;> omega))⟩
  case hIx =>
    rintro c s A A' ⟨rfl, g0, g1, g2⟩ hw
    rw [hsz] at hw
    exact ⟨rfl, g0, hw.boxed (by simp <;> omega) g1, g2.trans (hw.below g2.size (by simp <;> omega))⟩
  case h0 => exact ⟨s, 0, ⟨rfl, rfl⟩, hm, b0, b1, hbw⟩
  case hAx =>
    rintro pre x a' A A' ⟨hx, rfl⟩ hl hw
    exact ⟨hx, rfl⟩
  case assign =>
    intro pre x W K hl hi hx hK
    simp only [encU]
    gi_wp2
    refine hK _ _ (Below.refl _ _) hi ⟨hx, rfl⟩
  case body =>
    rintro pre x a' W hl ⟨s', p', g1, g2, g3, g4, g5⟩ ⟨hx, rfl⟩
    rw [hsz] at hl ⊢
    have c1 := g3.cell
    have hle := hx.le
    obtain ⟨s'', p'', h1, h2, h3⟩ := hx
    obtain ⟨rfl, rfl⟩ := g1.fn h1
    clear h1
    rcases h3 with ⟨hb, rfl⟩ | ⟨hb, rfl⟩
    · exfalso
      have h4 := HW.out
      unfold wrongU at h4
      rw [g1.runes, runesL_bad s' p' h2 hb] at h4
      simp at h4
    obtain ⟨q1, q2, q3, q4, q5, q6⟩ := firstF_ne s' p' hb
    have HS := hid (g1.snoc h2 hb)
    have hcut : cutU s most = cutN most p' ((firstF s').1 :: (runesL (s'.drop (firstF s').2) (p' + (firstF s').2)).1) := by
      unfold cutU
      rw [g1.runes, runesL_good s' p' h2 hb]
      exact g1.cut g2 _
    simp only [cutN] at hcut
    have HCT := hid hcut
    clear hcut
    dsimp only at hle ⊢
    generalize hr : (firstF s').1 = r at *
    generalize hnn : (firstF s').2 = n at *
    have HL := hid (fun W => utf_long r W hle)
    rw [← q6] at HL
    have h4l : n ≤ 4 := by rw [q6]; exact (lenR_bd r).2
    have HN := hid q6
    clear q6
    gi_wp2_with fail
    refine regionQIn [(1000, fun w' => w'.cell? ⟨w.heap.size, 0, none⟩ = some (.int .i64 most))] (by kernel_rfl) (by kernel_rfl) ⟨c1, trivial⟩ fun KQ hKQ => ?_
    refine takeQ 0 rfl (by kernel_rfl) rfl (by kernel_rfl) fun K hK => ?_
    simp only [List.getElem_toArray, List.getElem_cons_zero, List.getElem_cons_succ]
    go_big_quiet_op
    refine hK _ ?_
    clear hK K
    refine takeQ 1 rfl (by kernel_rfl) rfl (by kernel_rfl) fun K hK => ?_
    simp only [List.getElem_toArray, List.getElem_cons_zero, List.getElem_cons_succ]
    go_big_quiet_op
    refine hK _ ?_
    clear hK K
    refine loadQ 4 rfl (by kernel_rfl) (by kernel_rfl) rfl rfl 0 rfl (by kernel_rfl) _ (fun w' hf => by (go_simp <;> with_reducible rfl)) ?_
    simp only [Act.put, List.getElem_toArray, List.getElem_cons_zero, List.getElem_cons_succ, List.setIfInBounds_toArray, List.set_cons_zero, List.set_cons_succ]
    refine stepQ 2 rfl (by kernel_rfl) (by decide) (by kernel_rfl) fun K hK => ?_
    simp only [List.getElem_toArray, List.getElem_cons_zero, List.getElem_cons_succ]
    go_simp
    refine (HL.out _).mono ?_
    rintro e w2 ⟨rfl, hb2⟩
    have hb2' : Below W.heap.size W w2 := ⟨hb2.os, hb2.tape, hb2.output, hb2.size, hb2.block⟩
    have k3 := boxed_below g3 hb2'
    have k4 := boxed_below g4 hb2'
    have k5 := g5.trans (hb2'.mono g5.size)
    refine hK _ _ ⟨⟨fun _ => k3.cell, trivial⟩, ?_⟩
    clear hK K
    have hkp : Keep 0 ((w1.heap.size + 2) :: (w1.heap.size + 2 + 1) :: [w1.heap.size + 1]) W w2 := Keep.of_below hb2' (Nat.zero_le _) (fun k hk => by simp at hk; omega)
    by_cases hc : most < (p' : Int) + n
    · refine takeQ 3 rfl (by kernel_rfl) rfl (by kernel_rfl) fun K hK => ?_
      simp only [List.getElem_toArray, List.getElem_cons_zero, List.getElem_cons_succ]
      go_big_quiet_op
      refine hK _ ?_
      clear hK K
      refine takeQ 5 rfl (by kernel_rfl) rfl (by kernel_rfl) fun K hK => ?_
      simp only [List.getElem_toArray, List.getElem_cons_zero, List.getElem_cons_succ]
      go_big_quiet_op
      refine hK _ ?_
      clear hK K
      refine doneQ (by kernel_rfl) (hKQ.out _ _ ?_)
      clear hKQ KQ
      have HX := hid (show cutU s most = p' by rw [HCT.out, if_neg (by have := HN.out; omega)])
      gi_wp2
      exact ⟨hkp, rfl, by rw [HX.out]; have := g1.drop; omega, by rw [HX.out]; exact k4, k5⟩
    · refine takeQ 3 rfl (by kernel_rfl) rfl (by kernel_rfl) fun K hK => ?_
      simp only [List.getElem_toArray, List.getElem_cons_zero, List.getElem_cons_succ]
      go_big_quiet_op
      refine hK _ ?_
      clear hK K
      refine takeQ 5 rfl (by kernel_rfl) rfl (by kernel_rfl) fun K hK => ?_
      simp only [List.getElem_toArray, List.getElem_cons_zero, List.getElem_cons_succ]
      go_big_quiet_op
      refine hK _ ?_
      clear hK K
      refine doneQ (by kernel_rfl) (hKQ.out _ _ ?_)
      clear hKQ KQ
      have c3 := k3.cell
      have c4 := k4.cell
      have f4 := k4.frozen
      gi_wp2_with fail
      refine inW (HL.out _) ?_
      rintro e w3 ⟨rfl, hb3⟩
      have m3 := boxed_below k3 hb3
      have m4 := boxed_below k4 hb3
      have m5 := k5.trans (hb3.mono k5.size)
      have d4 := m4.cell
      have e4 := m4.frozen
      have hkp3 := hkp.trans (Keep.of_below hb3 (Nat.zero_le _) (fun k hk => by have := hb2'.size; simp at hk; omega))
      gi_wp2
      refine ⟨hkp3.trans (Keep.setCell _ _ (Nat.zero_le _) (by simp <;> omega) _), _, p' + n, HS.out, by omega, m3.other (by simp; omega) _, ?_, m5.setCell (p := ⟨w1.heap.size, 0, none⟩) (by simp; omega) _⟩
      rw [show ((p' + n : Nat) : Int) = (p' : Int) + n from by omega]
      exact m4.set _
  case done =>
    rintro xs W hS ⟨s', p', g1, g2, g3, g4, g5⟩ hl hD
    rw [hsz] at hl
    have hcut : cutU s most = p' ∧ p' ≤ s.length := by
      rcases hS with ⟨p'', hch⟩ | ⟨pre, s'', p'', hch, hne, hb, rfl⟩
      · obtain ⟨rfl, rfl⟩ := g1.fn hch
        refine ⟨?_, by have := g1.drop; omega⟩
        unfold cutU
        rw [g1.runes]
        have := g1.cut g2 []
        simpa [cutN, runesL_nil] using this
      · exfalso
        have h1 := HW.out
        unfold wrongU at h1
        rw [hch.runes, runesL_bad s'' p'' hne hb] at h1
        simp at h1
    have HX := hid hcut.1
    have hps := hcut.2
    clear hS hcut
    have c1 := g4.cell
    have f1 := g4.frozen
    have hto := fun W => str_to s p' hps W
    go_wp2
    refine ret_mark (v := .tuple #[.string ⟨(s.take p').toArray⟩, .int .i64 0]) hD (fun w' hw' => ?_)
    have wp : Wrote [W0.heap.size] W w' := by rw [hw']; exact Wrote.putObj _ _ (by simp) _
    refine ⟨by simp [results, Try.results18, go_sem], by rw [HX.out], ?_⟩
    exact g5.trans (wp.below g5.size (by simp; omega))
  case stop =>
    rintro c pre W _ ⟨rfl, hps, g1, g2⟩ hl hD
    rw [hsz] at hl
    have c1 := g1.cell
    have f1 := g1.frozen
    generalize hcc : cutU s most = p' at *
    have hto := fun W => str_to s p' hps W
    go_wp2
    refine ret_mark (v := .tuple #[.string ⟨(s.take p').toArray⟩, .int .i64 0]) hD (fun w' hw' => ?_)
    have wp : Wrote [W0.heap.size] W w' := by rw [hw']; exact Wrote.putObj _ _ (by simp) _
    refine ⟨by simp [results, Try.results18, go_sem], by rw [hcc], ?_⟩
    exact g2.trans (wp.below g2.size (by simp; omega))

set_option maxRecDepth 100000 in
set_option maxHeartbeats 400000 in
theorem utf_Cut_neg (s : List UInt8) (most : Int) (w : World) (hm : most < 0) :
    Calls Try.prog 18 #[.string ⟨s.toArray⟩, .int .i64 most] w fun e w' => e = .returned (.tuple #[.string ⟨#[]⟩, .int .i64 2]) ∧ Below w.heap.size w w' := by
  go_enter Try.func18, Try.ntmps18
  go_wp2
  go_ret2
  exact ⟨rfl, (Below.refl _ w).alloc (Nat.le_refl _) _⟩
set_option maxRecDepth 100000 in
set_option maxHeartbeats 400000 in
theorem utf_Cut_no (s : List UInt8) (most : Int) (w : World) (hs : s.length ≤ 1000000) (hw : 0 ≤ wrongU s) (hm : 0 ≤ most) :
    Calls Try.prog 18 #[.string ⟨s.toArray⟩, .int .i64 most] w fun e w' => e = .returned (.tuple #[.string ⟨#[]⟩, .int .i64 220]) ∧ Below w.heap.size w w' := by
  have HC := hid (fun W => utf_Check s W hs)
  rw [show checkU s = 220 by unfold checkU; rw [if_pos hw]] at HC
  clear hw
  go_enter Try.func18, Try.ntmps18
  go_wp2_with fail
  refine (HC.out _).mono ?_
  rintro e w1 ⟨rfl, hb1⟩
  go_wp2
  go_ret2
  exact ⟨rfl, ((Below.refl _ w).alloc (Nat.le_refl _) _).trans (hb1.mono (by simp))⟩
end Go.Proofs.Ytjgflihokbmhiaa
