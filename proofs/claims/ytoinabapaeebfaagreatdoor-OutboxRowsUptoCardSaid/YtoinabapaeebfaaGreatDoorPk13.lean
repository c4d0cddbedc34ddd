/- The reference's outbox, while it is empty. · The reference's outbox, while it is empty: says, Right, Put. -/
import Derived.Test.YtoinabapaeebfaaGreatDoorPk12
set_option linter.unusedSimpArgs false
set_option linter.unusedVariables false
namespace Go.Proofs.YtoinabapaeebfaaGreatDoor
open Go.RowKit Go.Shelf

def refA (v : Value) : Array Value := #[.string ⟨#[]⟩, .int .i64 0, .int .i64 0, .int .i64 0, .int .i64 0, .slice none 0 0, v, .slice none 0 0]
def rowZ : Array Value := #[.int .i64 1, .string ⟨#[]⟩, .int .i64 0, .int .i64 0, .string ⟨#[]⟩, .string ⟨#[]⟩, .int .i64 0, .bool false, .int .i64 0]

set_option maxRecDepth 100000 in
set_option maxHeartbeats 400000 in
theorem r_Session (a : Option Addr) (n c : Nat) (w : World) :
    Calls Tryz.prog 93 #[.agg (refA (.slice a n c))] w fun e w' => e = .returned (.agg rowZ) ∧ Below w.heap.size w w' := by
  unfold refA
  go_enter Tryz.func93, Tryz.ntmps93
  go_wp2
  go_returns
  refine ⟨rfl, ?_⟩
  repeat (first | exact Below.refl _ _ | (refine Below.setCell ?_ (by simp <;> omega) _) | (refine Below.alloc ?_ (by simp <;> omega) _) | refine Below.drew ?_)
set_option maxRecDepth 100000 in
set_option maxHeartbeats 400000 in
theorem r_send (a : Option Addr) (n c : Nat) (w : World) :
    Calls Tryz.prog 96 #[.agg (refA (.slice a n c))] w fun e w' => e = .returned (.agg (refA (.slice a n c))) ∧ Below w.heap.size w w' := by
  unfold refA
  go_enter Tryz.func96, Tryz.ntmps96
  go_wp2
  go_loopw [3] (fun i wr => i = .int .i64 0 ∧ wr = ((w.alloc (.cells (refA (.slice a n c)) 38)).alloc (.cells (refA (.slice none 0 0)) 38))) (fun _ _ => 0)
  case atStart => exact ⟨rfl, rfl⟩
  case round =>
    obtain ⟨rfl, rfl⟩ := hrel
    unfold refA
    go_wp2
    change bodyPost Tryz.prog Tryz.f96 _ _ _ _
    refine bodyPost_ret (v := .agg #[.string ⟨#[]⟩, .int .i64 0, .int .i64 0, .int .i64 0, .int .i64 0, .slice none 0 0, .slice a n c, .slice none 0 0]) (by simp [results, Tryz.results96, go_sem]) rfl ⟨rfl, ?_⟩
    repeat (first | exact Below.refl _ _ | (refine Below.setCell ?_ (by simp <;> omega) _) | (refine Below.alloc ?_ (by simp <;> omega) _) | refine Below.drew ?_)
set_option maxRecDepth 100000 in
set_option maxHeartbeats 400000 in
theorem r_find (z : Int) (w : World) :
    Calls Tryz.prog 97 #[.agg (refA (.slice none 0 0)), .int .i64 z] w fun e w' => e = .returned (.int .i64 (-1)) ∧ Below w.heap.size w w' := by
  unfold refA
  go_enter Tryz.func97, Tryz.ntmps97
  go_wp2
  go_loopw [5] (fun i wr => i = .int .i64 0 ∧ wr = (w.alloc (.cells (refA (.slice none 0 0)) 38))) (fun _ _ => 0)
  case atStart => exact ⟨rfl, rfl⟩
  case round =>
    obtain ⟨rfl, rfl⟩ := hrel
    unfold refA
    go_wp2
    go_ret
    refine ⟨rfl, ?_⟩
    repeat (first | exact Below.refl _ _ | (refine Below.setCell ?_ (by simp <;> omega) _) | (refine Below.alloc ?_ (by simp <;> omega) _) | refine Below.drew ?_)

def didA (v : Value) : Value := .agg #[v, .slice none 0 0]
set_option maxRecDepth 100000 in
set_option maxHeartbeats 800000 in
theorem r_done (a : Option Addr) (n c : Nat) (w : World) :
    Calls Tryz.prog 95 #[.agg (refA (.slice a n c)), .agg rowZ] w fun e w' => e = .returned (.tuple #[.agg (refA (.slice none 0 0)), didA (.slice a n c)]) ∧ Below w.heap.size w w' := by
  have CS := hid (r_Session a n c)
  unfold refA rowZ at *
  unfold didA
  go_enter Tryz.func95, Tryz.ntmps95
  go_wp2_with fail
  obtain ⟨W, hW⟩ : ∃ W, W = ((((w.alloc (.cells #[.string ⟨#[]⟩, .int .i64 0, .int .i64 0, .int .i64 0, .int .i64 0, .slice none 0 0, .slice a n c, .slice none 0 0] 38)).alloc (.cells #[.int .i64 1, .string ⟨#[]⟩, .int .i64 0, .int .i64 0, .string ⟨#[]⟩, .string ⟨#[]⟩, .int .i64 0, .bool false, .int .i64 0] 33)).alloc (.cells #[.string ⟨#[]⟩, .int .i64 0, .int .i64 0, .int .i64 0, .int .i64 0, .slice none 0 0, .slice none 0 0, .slice none 0 0] 38)).alloc (.cells #[.slice none 0 0, .slice none 0 0] 53)) := ⟨_, rfl⟩
  have B0 : Blk W w.heap.size #[.string ⟨#[]⟩, .int .i64 0, .int .i64 0, .int .i64 0, .int .i64 0, .slice none 0 0, .slice a n c, .slice none 0 0] 38 := by rw [hW]; exact (((Blk.new w _ _).alloc _).alloc _).alloc _
  have B1 : Blk W (w.heap.size + 1) #[.int .i64 1, .string ⟨#[]⟩, .int .i64 0, .int .i64 0, .string ⟨#[]⟩, .string ⟨#[]⟩, .int .i64 0, .bool false, .int .i64 0] 33 := by rw [hW]; exact ((Blk.new_at _ _ _ _ (by simp)).alloc _).alloc _
  have B2 : Blk W (w.heap.size + 1 + 1) #[.string ⟨#[]⟩, .int .i64 0, .int .i64 0, .int .i64 0, .int .i64 0, .slice none 0 0, .slice none 0 0, .slice none 0 0] 38 := by rw [hW]; exact (Blk.new_at _ _ _ _ (by simp)).alloc _
  have B3 : Blk W (w.heap.size + 1 + 1 + 1) #[.slice none 0 0, .slice none 0 0] 53 := by rw [hW]; exact Blk.new_at _ _ _ _ (by simp)
  have B4 : Below w.heap.size w W := by
    rw [hW]
    repeat (first | exact Below.refl _ _ | (refine Below.setCell ?_ (by simp <;> omega) _) | (refine Below.alloc ?_ (by simp <;> omega) _) | refine Below.drew ?_)
  rw [← hW]
  clear hW
  refine regionQ [(1000, fun w' => Blk w' w.heap.size #[.string ⟨#[]⟩, .int .i64 0, .int .i64 0, .int .i64 0, .int .i64 0, .slice none 0 0, .slice a n c, .slice none 0 0] 38), (1000, fun w' => Blk w' (w.heap.size + 1) #[.int .i64 1, .string ⟨#[]⟩, .int .i64 0, .int .i64 0, .string ⟨#[]⟩, .string ⟨#[]⟩, .int .i64 0, .bool false, .int .i64 0] 33)] (by kernel_rfl) ⟨B0, B1, trivial⟩ fun KQ hKQ => ?_
  refine loadQ 0 rfl (by kernel_rfl) (by kernel_rfl) rfl rfl 0 rfl (by kernel_rfl) _ (fun w' hf => run_load_blk hf 38 Tryz.underlying38 rfl (by kernel_rfl)) ?_
  simp only [Act.put, List.getElem_toArray, List.getElem_cons_zero, List.getElem_cons_succ, List.setIfInBounds_toArray, List.set_cons_zero, List.set_cons_succ]
  refine loadQ 2 rfl (by kernel_rfl) (by kernel_rfl) rfl rfl 1 rfl (by kernel_rfl) _ (fun w' hf => run_load_blk hf 33 Tryz.underlying33 rfl (by kernel_rfl)) ?_
  simp only [Act.put, List.getElem_toArray, List.getElem_cons_zero, List.getElem_cons_succ, List.setIfInBounds_toArray, List.set_cons_zero, List.set_cons_succ]
  refine stepQ 1 rfl (by kernel_rfl) (by decide) (by kernel_rfl) fun K hK => ?_
  simp only [List.getElem_toArray, List.getElem_cons_zero, List.getElem_cons_succ]
  go_simp
  refine (CS.out _).mono ?_
  rintro e w1 ⟨rfl, hb1⟩
  have B4 := B4.drew.trans (hb1.mono B4.drew.size)
  have B0 := B0.drew.below hb1
  have B1 := B1.drew.below hb1
  have B2 := B2.drew.below hb1
  have B3 := B3.drew.below hb1
  refine hK _ _ ⟨⟨fun _ => B0, fun _ => B1, trivial⟩, ?_⟩
  clear hK K
  refine takeQ 3 rfl (by kernel_rfl) rfl (by kernel_rfl) fun K hK => ?_
  simp only [List.getElem_toArray, List.getElem_cons_zero, List.getElem_cons_succ]
  go_big_quiet_op
  refine hK _ ?_
  clear hK K
  refine doneQ (by kernel_rfl) (hKQ.out _ _ ?_)
  clear hKQ KQ
  clear B1
  have k6 : w1.cell? ⟨w.heap.size, 6, none⟩ = some (.slice a n c) := B0.cell 6
  have k7 : w1.cell? ⟨w.heap.size, 7, none⟩ = some (.slice none 0 0) := B0.cell 7
  have lt0 : w.heap.size < w1.heap.size := B0.lt
  have B0 := hid B0
  have B2 := hid B2
  have B3 := hid B3
  have B4 := hid B4
  go_wp2_with (
    refine wpList_store_blk rfl 53 53 _ _ rfl 2 (fun w => by kernel_rfl) w1.heap.size _ #[.slice a n c, .slice none 0 0] rfl rfl (Blk.new w1 _ _) rfl rfl (by simp [Value.oneCell']) fun w2 hb2 hw2 => ?_
    have B5 := hid hb2
    have lt2 : w.heap.size ∉ [w1.heap.size] := by simp; omega
    have q6 : w2.cell? ⟨w.heap.size, 6, none⟩ = some (.slice a n c) := ((B0.out.alloc _).wrote hw2 lt2).cell 6
    have q7 : w2.cell? ⟨w.heap.size, 7, none⟩ = some (.slice none 0 0) := ((B0.out.alloc _).wrote hw2 lt2).cell 7
    have z6 := ((B0.out.alloc _).wrote hw2 lt2).frozen 6
    have z7 := ((B0.out.alloc _).wrote hw2 lt2).frozen 7
    have hw2 := hid hw2)
  obtain ⟨W4, hW4⟩ : ∃ W4, W4 = (w2.setCell ⟨w.heap.size, 6, none⟩ (.slice none 0 0)).setCell ⟨w.heap.size, 7, none⟩ (.slice none 0 0) := ⟨_, rfl⟩
  rw [← hW4]
  have hw4 : Wrote [w.heap.size, w1.heap.size] w1 W4 := by
    rw [hW4]
    exact ((((Wrote.refl [w.heap.size, w1.heap.size] w1).trans (Wrote.of_below ((Below.refl _ w1).alloc (Nat.le_refl _) _))).trans (hw2.out.sub (by simp))).trans (Wrote.setCell w2 _ (by simp) _)).trans (Wrote.setCell _ _ (by simp) _)
  have C0 : Blk W4 w.heap.size #[.string ⟨#[]⟩, .int .i64 0, .int .i64 0, .int .i64 0, .int .i64 0, .slice none 0 0, .slice none 0 0, .slice none 0 0] 38 := by
    rw [hW4]
    exact ((((B0.out.alloc _).wrote hw2.out lt2).set 6 _).set 7 _)
  have C5 : Blk W4 w1.heap.size #[.slice a n c, .slice none 0 0] 53 := by
    rw [hW4]
    exact (B5.out.set_ne ⟨w.heap.size, 6, none⟩ (by simp; omega) _).set_ne ⟨w.heap.size, 7, none⟩ (by simp; omega) _
  have n2 : w.heap.size + 1 + 1 < w1.heap.size := B2.out.lt
  have n3 : w.heap.size + 1 + 1 + 1 < w1.heap.size := B3.out.lt
  have C2 := hid (B2.out.wrote hw4 (by simp; omega))
  have C3 := hid (B3.out.wrote hw4 (by simp; omega))
  have C4 := hid (below_wrote B4.out hw4 (by simp; omega))
  clear hW4
  refine regionQ [(1000, fun w' => Blk w' w.heap.size #[.string ⟨#[]⟩, .int .i64 0, .int .i64 0, .int .i64 0, .int .i64 0, .slice none 0 0, .slice none 0 0, .slice none 0 0] 38), (1000, fun w' => Blk w' w1.heap.size #[.slice a n c, .slice none 0 0] 53)] (by kernel_rfl) ⟨C0, C5, trivial⟩ fun KQ hKQ => ?_
  refine loadQ 0 rfl (by kernel_rfl) (by kernel_rfl) rfl rfl 0 rfl (by kernel_rfl) _ (fun w' hf => run_load_blk hf 38 Tryz.underlying38 rfl (by kernel_rfl)) ?_
  simp only [Act.put, List.getElem_toArray, List.getElem_cons_zero, List.getElem_cons_succ, List.setIfInBounds_toArray, List.set_cons_zero, List.set_cons_succ]
  refine loadQ 1 rfl (by kernel_rfl) (by kernel_rfl) rfl rfl 1 rfl (by kernel_rfl) _ (fun w' hf => run_load_blk hf 53 Tryz.underlying53 rfl (by kernel_rfl)) ?_
  simp only [Act.put, List.getElem_toArray, List.getElem_cons_zero, List.getElem_cons_succ, List.setIfInBounds_toArray, List.set_cons_zero, List.set_cons_succ]
  refine stepQ 2 rfl (by kernel_rfl) (by decide) (by kernel_rfl) fun K hK => ?_
  simp only [List.getElem_toArray, List.getElem_cons_zero, List.getElem_cons_succ]
  refine wp_store_whole 38 38 _ _ rfl 8 (fun w => by kernel_rfl) (w.heap.size + 1 + 1) _ #[.string ⟨#[]⟩, .int .i64 0, .int .i64 0, .int .i64 0, .int .i64 0, .slice none 0 0, .slice none 0 0, .slice none 0 0] rfl rfl C2.out.drew rfl rfl (by simp [Value.oneCell']) fun w5 h5 g5 => ?_
  have D0 := C0.drew.wrote g5 (by simp; omega)
  have D5 := C5.drew.wrote g5 (by simp; omega)
  have D3 := C3.out.drew.wrote g5 (by simp)
  have D4 := below_wrote C4.out.drew g5 (by simp; omega)
  refine hK _ _ ⟨⟨fun _ => D0, fun _ => D5, trivial⟩, ?_⟩
  clear hK K
  refine stepQ 3 rfl (by kernel_rfl) (by decide) (by kernel_rfl) fun K hK => ?_
  simp only [List.getElem_toArray, List.getElem_cons_zero, List.getElem_cons_succ]
  refine wp_store_whole 53 53 _ _ rfl 2 (fun w => by kernel_rfl) (w.heap.size + 1 + 1 + 1) _ #[.slice a n c, .slice none 0 0] rfl rfl D3 rfl rfl (by simp [Value.oneCell']) fun w6 h6 g6 => ?_
  have E0 := D0.wrote g6 (by simp; omega)
  have E5 := D5.wrote g6 (by simp; omega)
  have E2 := h5.wrote g6 (by simp)
  have E4 := below_wrote D4 g6 (by simp; omega)
  refine hK _ _ ⟨⟨fun _ => E0, fun _ => E5, trivial⟩, ?_⟩
  clear hK K
  refine doneQ (by kernel_rfl) (hKQ.out _ _ ?_)
  clear hKQ KQ
  go_wp2
  change bodyPost Tryz.prog Tryz.f95 _ _ _ _
  refine bodyPost_ret (v := .tuple #[.agg #[.string ⟨#[]⟩, .int .i64 0, .int .i64 0, .int .i64 0, .int .i64 0, .slice none 0 0, .slice none 0 0, .slice none 0 0], .agg #[.slice a n c, .slice none 0 0]]) ?_ rfl ⟨rfl, E4⟩
  have l1 := run_loadVar_blk (P := Tryz.prog) E2 38 Tryz.underlying38 rfl (by kernel_rfl)
  have l2 := run_loadVar_blk (P := Tryz.prog) h6 53 Tryz.underlying53 rfl (by kernel_rfl)
  exact results_cc Tryz.results95 rfl rfl l1 l2

def zA : Array Value := #[.string ⟨#[]⟩, .int .i64 0, .int .i64 0, .int .i64 0, .int .i64 0, .slice none 0 0, .slice none 0 0, .slice none 0 0]
set_option maxRecDepth 100000 in
set_option maxHeartbeats 800000 in
theorem r_Send (w : World) :
    Calls Tryz.prog 46 #[.agg (refA (.slice none 0 0))] w fun e w' => e = .returned (.tuple #[.agg (refA (.slice none 0 0)), didA (.slice none 0 0)]) ∧ Below w.heap.size w w' := by
  have CS := hid (r_Session none 0 0)
  have CE := hid (r_send none 0 0)
  have CD := hid (r_done none 0 0)
  unfold refA rowZ didA at *
  go_enter Tryz.func46, Tryz.ntmps46
  go_wp2_with fail
  obtain ⟨W, hW⟩ : ∃ W, W = (((w.alloc (.cells #[.string ⟨#[]⟩, .int .i64 0, .int .i64 0, .int .i64 0, .int .i64 0, .slice none 0 0, .slice none 0 0, .slice none 0 0] 38)).alloc (.cells #[.string ⟨#[]⟩, .int .i64 0, .int .i64 0, .int .i64 0, .int .i64 0, .slice none 0 0, .slice none 0 0, .slice none 0 0] 38)).alloc (.cells #[.slice none 0 0, .slice none 0 0] 53)) := ⟨_, rfl⟩
  have B0 : Blk W w.heap.size zA 38 := by rw [hW]; exact ((Blk.new w _ _).alloc _).alloc _
  have B2 : Blk W (w.heap.size + 1) zA 38 := by rw [hW]; exact (Blk.new_at _ _ _ _ (by simp)).alloc _
  have B3 : Blk W (w.heap.size + 1 + 1) #[.slice none 0 0, .slice none 0 0] 53 := by rw [hW]; exact Blk.new_at _ _ _ _ (by simp)
  have B4 : Below w.heap.size w W := by
    rw [hW]
    repeat (first | exact Below.refl _ _ | (refine Below.setCell ?_ (by simp <;> omega) _) | (refine Below.alloc ?_ (by simp <;> omega) _) | refine Below.drew ?_)
  rw [← hW]
  clear hW
  refine (CS.out _).mono ?_
  rintro e w1 ⟨rfl, hb1⟩
  replace B4 := B4.trans (hb1.mono B4.size)
  replace B0 := B0.below hb1
  replace B2 := B2.below hb1
  replace B3 := B3.below hb1
  clear hb1 W
  obtain ⟨W, hW⟩ : ∃ W, W = w1 := ⟨_, rfl⟩
  subst hW
  have lt0 : w.heap.size < W.heap.size := B0.lt
  have b2 : w.heap.size + 1 < W.heap.size := B2.lt
  have b3 : w.heap.size + 1 + 1 < W.heap.size := B3.lt
  go_wp2_with (
    refine wpList_store_blk rfl 33 33 _ _ rfl 9 (fun w => by kernel_rfl) W.heap.size _ #[.int .i64 1, .string ⟨#[]⟩, .int .i64 0, .int .i64 0, .string ⟨#[]⟩, .string ⟨#[]⟩, .int .i64 0, .bool false, .int .i64 0] rfl rfl (Blk.new W _ _) rfl rfl (by simp [Value.oneCell']) fun w2 hb2 hw2 => ?_
    have C1 := hb2
    have C0 := (B0.alloc _).wrote hw2 (by simp; omega)
    have C2 := (B2.alloc _).wrote hw2 (by simp; omega)
    have C3 := (B3.alloc _).wrote hw2 (by simp; omega)
    have C4 := below_wrote (B4.alloc B4.size _) hw2 (by simp; omega)
    clear hw2 hb2)
  refine regionQ [(1000, fun w' => Blk w' w.heap.size #[.string ⟨#[]⟩, .int .i64 0, .int .i64 0, .int .i64 0, .int .i64 0, .slice none 0 0, .slice none 0 0, .slice none 0 0] 38), (1000, fun w' => Blk w' W.heap.size #[.int .i64 1, .string ⟨#[]⟩, .int .i64 0, .int .i64 0, .string ⟨#[]⟩, .string ⟨#[]⟩, .int .i64 0, .bool false, .int .i64 0] 33)] (by kernel_rfl) ⟨C0, C1, trivial⟩ fun KQ hKQ => ?_
  refine loadQ 0 rfl (by kernel_rfl) (by kernel_rfl) rfl rfl 0 rfl (by kernel_rfl) _ (fun w' hf => run_load_blk hf 38 Tryz.underlying38 rfl (by kernel_rfl)) ?_
  simp only [Act.put, List.getElem_toArray, List.getElem_cons_zero, List.getElem_cons_succ, List.setIfInBounds_toArray, List.set_cons_zero, List.set_cons_succ]
  refine loadQ 2 rfl (by kernel_rfl) (by kernel_rfl) rfl rfl 1 rfl (by kernel_rfl) _ (fun w' hf => run_load_blk hf 33 Tryz.underlying33 rfl (by kernel_rfl)) ?_
  simp only [Act.put, List.getElem_toArray, List.getElem_cons_zero, List.getElem_cons_succ, List.setIfInBounds_toArray, List.set_cons_zero, List.set_cons_succ]
  refine stepQ 1 rfl (by kernel_rfl) (by decide) (by kernel_rfl) fun K hK => ?_
  simp only [List.getElem_toArray, List.getElem_cons_zero, List.getElem_cons_succ]
  go_simp
  refine (CE.out _).mono ?_
  rintro e w3 ⟨rfl, hb3⟩
  replace C4 := C4.drew.trans (hb3.mono C4.drew.size)
  replace C0 := C0.drew.below hb3
  replace C1 := C1.drew.below hb3
  replace C2 := C2.drew.below hb3
  replace C3 := C3.drew.below hb3
  clear hb3
  refine hK _ _ ⟨⟨fun _ => C0, fun _ => C1, trivial⟩, ?_⟩
  clear hK K
  refine stepQ 3 rfl (by kernel_rfl) (by decide) (by kernel_rfl) fun K hK => ?_
  simp only [List.getElem_toArray, List.getElem_cons_zero, List.getElem_cons_succ]
  go_simp
  refine (CD.out _).mono ?_
  rintro e w4 ⟨rfl, hb4⟩
  replace C4 := C4.trans (hb4.mono C4.size)
  replace C0 := C0.below hb4
  replace C1 := C1.below hb4
  replace C2 := C2.below hb4
  replace C3 := C3.below hb4
  clear hb4
  refine hK _ _ ⟨⟨fun _ => C0, fun _ => C1, trivial⟩, ?_⟩
  clear hK K
  refine takeQ 4 rfl (by kernel_rfl) rfl (by kernel_rfl) fun K hK => ?_
  simp only [List.getElem_toArray, List.getElem_cons_zero, List.getElem_cons_succ]
  go_big_quiet_op
  refine hK _ ?_
  clear hK K
  refine takeQ 5 rfl (by kernel_rfl) rfl (by kernel_rfl) fun K hK => ?_
  simp only [List.getElem_toArray, List.getElem_cons_zero, List.getElem_cons_succ]
  go_big_quiet_op
  refine hK _ ?_
  clear hK K
  refine stepQ 6 rfl (by kernel_rfl) (by decide) (by kernel_rfl) fun K hK => ?_
  simp only [List.getElem_toArray, List.getElem_cons_zero, List.getElem_cons_succ]
  refine wp_store_whole 38 38 _ _ rfl 8 (fun w => by kernel_rfl) (w.heap.size + 1) _ #[.string ⟨#[]⟩, .int .i64 0, .int .i64 0, .int .i64 0, .int .i64 0, .slice none 0 0, .slice none 0 0, .slice none 0 0] rfl rfl C2 rfl rfl (by simp [Value.oneCell']) fun w5 h5 g5 => ?_
  have D0 := C0.wrote g5 (by simp)
  have D1 := C1.wrote g5 (by simp; omega)
  have D3 := C3.wrote g5 (by simp)
  have D4 := below_wrote C4 g5 (by simp)
  refine hK _ _ ⟨⟨fun _ => D0, fun _ => D1, trivial⟩, ?_⟩
  clear hK K
  refine stepQ 7 rfl (by kernel_rfl) (by decide) (by kernel_rfl) fun K hK => ?_
  simp only [List.getElem_toArray, List.getElem_cons_zero, List.getElem_cons_succ]
  refine wp_store_whole 53 53 _ _ rfl 2 (fun w => by kernel_rfl) (w.heap.size + 1 + 1) _ #[.slice none 0 0, .slice none 0 0] rfl rfl D3 rfl rfl (by simp [Value.oneCell']) fun w6 h6 g6 => ?_
  have E0 := D0.wrote g6 (by simp; omega)
  have E1 := D1.wrote g6 (by simp; omega)
  have E2 := h5.wrote g6 (by simp)
  have E4 := below_wrote D4 g6 (by simp; omega)
  refine hK _ _ ⟨⟨fun _ => E0, fun _ => E1, trivial⟩, ?_⟩
  clear hK K
  refine doneQ (by kernel_rfl) (hKQ.out _ _ ?_)
  clear hKQ KQ
  go_wp2
  change bodyPost Tryz.prog Tryz.f46 _ _ _ _
  refine bodyPost_ret (v := .tuple #[.agg #[.string ⟨#[]⟩, .int .i64 0, .int .i64 0, .int .i64 0, .int .i64 0, .slice none 0 0, .slice none 0 0, .slice none 0 0], .agg #[.slice none 0 0, .slice none 0 0]]) ?_ rfl ⟨rfl, E4⟩
  have l1 := run_loadVar_blk (P := Tryz.prog) E2 38 Tryz.underlying38 rfl (by kernel_rfl)
  have l2 := run_loadVar_blk (P := Tryz.prog) h6 53 Tryz.underlying53 rfl (by kernel_rfl)
  exact results_cc Tryz.results46 rfl rfl l1 l2
set_option maxRecDepth 100000 in
set_option maxHeartbeats 800000 in
theorem r_Anew (w : World) :
    Calls Tryz.prog 49 #[.agg (refA (.slice none 0 0))] w fun e w' => e = .returned (.tuple #[.agg (refA (.slice none 0 0)), didA (.slice none 0 0)]) ∧ Below w.heap.size w w' := by
  have CS := hid (r_Session none 0 0)
  have CE := hid (r_send none 0 0)
  have CD := hid (r_done none 0 0)
  unfold refA rowZ didA at *
  go_enter Tryz.func49, Tryz.ntmps49
  go_wp2_with fail
  obtain ⟨W, hW⟩ : ∃ W, W = (((w.alloc (.cells #[.string ⟨#[]⟩, .int .i64 0, .int .i64 0, .int .i64 0, .int .i64 0, .slice none 0 0, .slice none 0 0, .slice none 0 0] 38)).alloc (.cells #[.string ⟨#[]⟩, .int .i64 0, .int .i64 0, .int .i64 0, .int .i64 0, .slice none 0 0, .slice none 0 0, .slice none 0 0] 38)).alloc (.cells #[.slice none 0 0, .slice none 0 0] 53)) := ⟨_, rfl⟩
  have B0 : Blk W w.heap.size zA 38 := by rw [hW]; exact ((Blk.new w _ _).alloc _).alloc _
  have B2 : Blk W (w.heap.size + 1) zA 38 := by rw [hW]; exact (Blk.new_at _ _ _ _ (by simp)).alloc _
  have B3 : Blk W (w.heap.size + 1 + 1) #[.slice none 0 0, .slice none 0 0] 53 := by rw [hW]; exact Blk.new_at _ _ _ _ (by simp)
  have B4 : Below w.heap.size w W := by
    rw [hW]
    repeat (first | exact Below.refl _ _ | (refine Below.setCell ?_ (by simp <;> omega) _) | (refine Below.alloc ?_ (by simp <;> omega) _) | refine Below.drew ?_)
  rw [← hW]
  clear hW
  refine (CS.out _).mono ?_
  rintro e w1 ⟨rfl, hb1⟩
  replace B4 := B4.trans (hb1.mono B4.size)
  replace B0 := B0.below hb1
  replace B2 := B2.below hb1
  replace B3 := B3.below hb1
  clear hb1 W
  obtain ⟨W, hW⟩ : ∃ W, W = w1 := ⟨_, rfl⟩
  subst hW
  have lt0 : w.heap.size < W.heap.size := B0.lt
  have b2 : w.heap.size + 1 < W.heap.size := B2.lt
  have b3 : w.heap.size + 1 + 1 < W.heap.size := B3.lt
  go_wp2_with (
    refine wpList_store_blk rfl 33 33 _ _ rfl 9 (fun w => by kernel_rfl) W.heap.size _ #[.int .i64 1, .string ⟨#[]⟩, .int .i64 0, .int .i64 0, .string ⟨#[]⟩, .string ⟨#[]⟩, .int .i64 0, .bool false, .int .i64 0] rfl rfl (Blk.new W _ _) rfl rfl (by simp [Value.oneCell']) fun w2 hb2 hw2 => ?_
    have C1 := hb2
    have C0 := (B0.alloc _).wrote hw2 (by simp; omega)
    have C2 := (B2.alloc _).wrote hw2 (by simp; omega)
    have C3 := (B3.alloc _).wrote hw2 (by simp; omega)
    have C4 := below_wrote (B4.alloc B4.size _) hw2 (by simp; omega)
    clear hw2 hb2)
  have B0 := hid C0; have B1 := hid C1; have B2 := hid C2; have B3 := hid C3; have B4 := hid C4
  have k5 : w2.cell? ⟨w.heap.size, 5, none⟩ = some (.slice none 0 0) := C0.cell 5
  clear C0 C1 C2 C3 C4
  go_loopw [5] (fun i wr => i = .int .i64 0 ∧ wr = w2) (fun _ _ => 0)
  case atStart => exact ⟨rfl, rfl⟩
  case round =>
    obtain ⟨rfl, rfl⟩ := hrel
    go_wp2
    have C0 := B0.out; have C1 := B1.out; have C2 := B2.out; have C3 := B3.out; have C4 := B4.out
    refine regionQ [(1000, fun w' => Blk w' w.heap.size #[.string ⟨#[]⟩, .int .i64 0, .int .i64 0, .int .i64 0, .int .i64 0, .slice none 0 0, .slice none 0 0, .slice none 0 0] 38), (1000, fun w' => Blk w' W.heap.size #[.int .i64 1, .string ⟨#[]⟩, .int .i64 0, .int .i64 0, .string ⟨#[]⟩, .string ⟨#[]⟩, .int .i64 0, .bool false, .int .i64 0] 33)] (by kernel_rfl) ⟨C0, C1, trivial⟩ fun KQ hKQ => ?_
    refine loadQ 0 rfl (by kernel_rfl) (by kernel_rfl) rfl rfl 0 rfl (by kernel_rfl) _ (fun w' hf => run_load_blk hf 38 Tryz.underlying38 rfl (by kernel_rfl)) ?_
    simp only [Act.put, List.getElem_toArray, List.getElem_cons_zero, List.getElem_cons_succ, List.setIfInBounds_toArray, List.set_cons_zero, List.set_cons_succ]
    refine loadQ 2 rfl (by kernel_rfl) (by kernel_rfl) rfl rfl 1 rfl (by kernel_rfl) _ (fun w' hf => run_load_blk hf 33 Tryz.underlying33 rfl (by kernel_rfl)) ?_
    simp only [Act.put, List.getElem_toArray, List.getElem_cons_zero, List.getElem_cons_succ, List.setIfInBounds_toArray, List.set_cons_zero, List.set_cons_succ]
    refine stepQ 1 rfl (by kernel_rfl) (by decide) (by kernel_rfl) fun K hK => ?_
    simp only [List.getElem_toArray, List.getElem_cons_zero, List.getElem_cons_succ]
    go_simp
    refine (CE.out _).mono ?_
    rintro e w3 ⟨rfl, hb3⟩
    replace C4 := C4.drew.trans (hb3.mono C4.drew.size)
    replace C0 := C0.drew.below hb3
    replace C1 := C1.drew.below hb3
    replace C2 := C2.drew.below hb3
    replace C3 := C3.drew.below hb3
    clear hb3
    refine hK _ _ ⟨⟨fun _ => C0, fun _ => C1, trivial⟩, ?_⟩
    clear hK K
    refine stepQ 3 rfl (by kernel_rfl) (by decide) (by kernel_rfl) fun K hK => ?_
    simp only [List.getElem_toArray, List.getElem_cons_zero, List.getElem_cons_succ]
    go_simp
    refine (CD.out _).mono ?_
    rintro e w4 ⟨rfl, hb4⟩
    replace C4 := C4.trans (hb4.mono C4.size)
    replace C0 := C0.below hb4
    replace C1 := C1.below hb4
    replace C2 := C2.below hb4
    replace C3 := C3.below hb4
    clear hb4
    refine hK _ _ ⟨⟨fun _ => C0, fun _ => C1, trivial⟩, ?_⟩
    clear hK K
    refine takeQ 4 rfl (by kernel_rfl) rfl (by kernel_rfl) fun K hK => ?_
    simp only [List.getElem_toArray, List.getElem_cons_zero, List.getElem_cons_succ]
    go_big_quiet_op
    refine hK _ ?_
    clear hK K
    refine takeQ 5 rfl (by kernel_rfl) rfl (by kernel_rfl) fun K hK => ?_
    simp only [List.getElem_toArray, List.getElem_cons_zero, List.getElem_cons_succ]
    go_big_quiet_op
    refine hK _ ?_
    clear hK K
    refine stepQ 6 rfl (by kernel_rfl) (by decide) (by kernel_rfl) fun K hK => ?_
    simp only [List.getElem_toArray, List.getElem_cons_zero, List.getElem_cons_succ]
    refine wp_store_whole 38 38 _ _ rfl 8 (fun w => by kernel_rfl) (w.heap.size + 1) _ #[.string ⟨#[]⟩, .int .i64 0, .int .i64 0, .int .i64 0, .int .i64 0, .slice none 0 0, .slice none 0 0, .slice none 0 0] rfl rfl C2 rfl rfl (by simp [Value.oneCell']) fun w5 h5 g5 => ?_
    have D0 := C0.wrote g5 (by simp)
    have D1 := C1.wrote g5 (by simp; omega)
    have D3 := C3.wrote g5 (by simp)
    have D4 := below_wrote C4 g5 (by simp)
    refine hK _ _ ⟨⟨fun _ => D0, fun _ => D1, trivial⟩, ?_⟩
    clear hK K
    refine stepQ 7 rfl (by kernel_rfl) (by decide) (by kernel_rfl) fun K hK => ?_
    simp only [List.getElem_toArray, List.getElem_cons_zero, List.getElem_cons_succ]
    refine wp_store_whole 53 53 _ _ rfl 2 (fun w => by kernel_rfl) (w.heap.size + 1 + 1) _ #[.slice none 0 0, .slice none 0 0] rfl rfl D3 rfl rfl (by simp [Value.oneCell']) fun w6 h6 g6 => ?_
    have E0 := D0.wrote g6 (by simp; omega)
    have E1 := D1.wrote g6 (by simp; omega)
    have E2 := h5.wrote g6 (by simp)
    have E4 := below_wrote D4 g6 (by simp; omega)
    refine hK _ _ ⟨⟨fun _ => E0, fun _ => E1, trivial⟩, ?_⟩
    clear hK K
    refine doneQ (by kernel_rfl) (hKQ.out _ _ ?_)
    clear hKQ KQ
    go_wp2
    change bodyPost Tryz.prog Tryz.f49 _ _ _ _
    refine bodyPost_ret (v := .tuple #[.agg #[.string ⟨#[]⟩, .int .i64 0, .int .i64 0, .int .i64 0, .int .i64 0, .slice none 0 0, .slice none 0 0, .slice none 0 0], .agg #[.slice none 0 0, .slice none 0 0]]) ?_ rfl ⟨rfl, E4⟩
    have l1 := run_loadVar_blk (P := Tryz.prog) E2 38 Tryz.underlying38 rfl (by kernel_rfl)
    have l2 := run_loadVar_blk (P := Tryz.prog) h6 53 Tryz.underlying53 rfl (by kernel_rfl)
    exact results_cc Tryz.results49 rfl rfl l1 l2
end Go.Proofs.YtoinabapaeebfaaGreatDoor
namespace Go.Proofs.YtoinabapaeebfaaGreatDoor
open Go.RowKit Go.Shelf

set_option maxRecDepth 100000 in
set_option maxHeartbeats 800000 in
/-- No row that goes out has no client. -/
theorem r_Right_no (seq : Int) (topic body : List UInt8) (qos : Int) (retain : Bool) (w : World) :
    Calls Tryz.prog 50 #[.agg (RowV.vals ⟨3, [], seq, 0, topic, body, qos, retain, 1⟩)] w fun e w' => e = .returned (.bool false) ∧ Below w.heap.size w w' := by
  unfold RowV.vals
  dsimp only
  have CC : Hid (∀ w, Calls Tryz.prog 104 #[.string ⟨#[]⟩] w fun e w' => e = .returned (.bool false) ∧ w = w') := hid fun w => by
    go_enter Tryz.func104, Tryz.ntmps104
    go_wp2
    go_ret
    simp
  go_enter Tryz.func50, Tryz.ntmps50
  go_wp2_with (go_at_call 104; refine (CC.out _).mono ?_; rintro e w1 ⟨rfl, rfl⟩)
  all_goals (go_ret; refine ⟨rfl, ?_⟩)
  all_goals repeat (first | exact Below.refl _ _ | (refine Below.setCell ?_ (by simp <;> omega) _) | (refine Below.alloc ?_ (by simp <;> omega) _) | refine Below.drew ?_)

set_option maxRecDepth 100000 in
set_option maxHeartbeats 800000 in
theorem r_Put (topic body : List UInt8) (qos : Int) (retain : Bool) (w : World) :
    Calls Tryz.prog 45 #[.agg (refA (.slice none 0 0)), .string ⟨topic.toArray⟩, .string ⟨body.toArray⟩, .int .i64 qos, .bool retain] w fun e w' => e = .returned (.tuple #[.agg (refA (.slice none 0 0)), didA (.slice none 0 0), .int .i64 2]) ∧ Below w.heap.size w w' := by
  have CR := hid (r_Right_no 0 topic body qos retain)
  unfold RowV.vals at CR
  unfold refA didA
  dsimp only at CR
  go_enter Tryz.func45, Tryz.ntmps45
  go_wp2_with fail
  obtain ⟨W, hW⟩ : ∃ W, W = ((((w.alloc (.cells #[.string ⟨#[]⟩, .int .i64 0, .int .i64 0, .int .i64 0, .int .i64 0, .slice none 0 0, .slice none 0 0, .slice none 0 0] 38)).alloc (.cells #[.string ⟨#[]⟩, .int .i64 0, .int .i64 0, .int .i64 0, .int .i64 0, .slice none 0 0, .slice none 0 0, .slice none 0 0] 38)).alloc (.cells #[.slice none 0 0, .slice none 0 0] 53)).alloc (.cells #[.int .i64 3, .string ⟨#[]⟩, .int .i64 0, .int .i64 0, .string ⟨topic.toArray⟩, .string ⟨body.toArray⟩, .int .i64 qos, .bool retain, .int .i64 1] 33)) := ⟨_, rfl⟩
  have B0 : Blk W w.heap.size zA 38 := by rw [hW]; exact (((Blk.new w _ _).alloc _).alloc _).alloc _
  have B2 : Blk W (w.heap.size + 1) zA 38 := by rw [hW]; exact ((Blk.new_at _ _ _ _ (by simp)).alloc _).alloc _
  have B3 : Blk W (w.heap.size + 1 + 1) #[.slice none 0 0, .slice none 0 0] 53 := by rw [hW]; exact (Blk.new_at _ _ _ _ (by simp)).alloc _
  have B4 : Below w.heap.size w W := by
    rw [hW]
    repeat (first | exact Below.refl _ _ | (refine Below.setCell ?_ (by simp <;> omega) _) | (refine Below.alloc ?_ (by simp <;> omega) _) | refine Below.drew ?_)
  rw [← hW]
  clear hW
  refine (CR.out _).mono ?_
  rintro e w1 ⟨rfl, hb1⟩
  replace B4 := B4.trans (hb1.mono B4.size)
  replace B0 := B0.below hb1
  replace B2 := B2.below hb1
  replace B3 := B3.below hb1
  clear hb1 W
  go_wp2_with (first
    | (refine wpList_load_blk rfl 38 _ rfl w.heap.size #[.string ⟨#[]⟩, .int .i64 0, .int .i64 0, .int .i64 0, .int .i64 0, .slice none 0 0, .slice none 0 0, .slice none 0 0] rfl B0 Tryz.underlying38 rfl (by kernel_rfl) ?_)
    | (refine wpList_store_blk rfl 38 38 _ _ rfl 8 (fun w => by kernel_rfl) (w.heap.size + 1) _ #[.string ⟨#[]⟩, .int .i64 0, .int .i64 0, .int .i64 0, .int .i64 0, .slice none 0 0, .slice none 0 0, .slice none 0 0] rfl rfl B2 rfl rfl (by simp [Value.oneCell']) fun w5 h5 g5 => ?_
       have D3 := B3.wrote g5 (by simp)
       have D4 := below_wrote B4 g5 (by simp))
    | (refine wpList_store_blk rfl 53 53 _ _ rfl 2 (fun w => by kernel_rfl) (w.heap.size + 1 + 1) _ #[.slice none 0 0, .slice none 0 0] rfl rfl D3 rfl rfl (by simp [Value.oneCell']) fun w6 h6 g6 => ?_
       have E2 := h5.wrote g6 (by simp)
       have E4 := below_wrote D4 g6 (by simp; omega)))
  change bodyPost Tryz.prog Tryz.f45 _ _ _ _
  refine bodyPost_ret (v := .tuple #[.agg #[.string ⟨#[]⟩, .int .i64 0, .int .i64 0, .int .i64 0, .int .i64 0, .slice none 0 0, .slice none 0 0, .slice none 0 0], .agg #[.slice none 0 0, .slice none 0 0], .int .i64 2]) ?_ rfl ⟨rfl, E4⟩
  have l1 := run_loadVar_blk (P := Tryz.prog) E2 38 Tryz.underlying38 rfl (by kernel_rfl)
  have l2 := run_loadVar_blk (P := Tryz.prog) h6 53 Tryz.underlying53 rfl (by kernel_rfl)
  exact results_cct Tryz.results45 rfl rfl l1 l2 rfl

theorem app_nil_nil (w : World) : (Builtin.append_ #[35, 35] 35 #[.slice none 0 0, .slice none 0 0]).run Tryz.prog w = .ok (.slice none 0 0) w := by kernel_rfl
set_option maxRecDepth 100000 in
set_option maxHeartbeats 800000 in
theorem r_says (p : PackV) (w : World) :
    Calls Tryz.prog 100 #[.agg (refA (.slice none 0 0)), .agg p.cells.toArray] w fun e w' => ∃ a n c, e = .returned (.agg (refA (.slice a n c))) ∧ w'.ownsRow w.heap.size 81 24 (.slice a n c) 1 p.cells ∧ Below w.heap.size w w' := by
  unfold refA
  go_enter Tryz.func100, Tryz.ntmps100
  go_wp2_with fail
  obtain ⟨W, hW⟩ : ∃ W, W = ((w.alloc (.cells #[.string ⟨#[]⟩, .int .i64 0, .int .i64 0, .int .i64 0, .int .i64 0, .slice none 0 0, .slice none 0 0, .slice none 0 0] 38)).alloc (.cells p.cells.toArray 81)).alloc (.cells #[.string ⟨#[]⟩, .int .i64 0, .int .i64 0, .int .i64 0, .int .i64 0, .slice none 0 0, .slice none 0 0, .slice none 0 0] 38) := ⟨_, rfl⟩
  have B0 : Blk W w.heap.size zA 38 := by rw [hW]; exact ((Blk.new w _ _).alloc _).alloc _
  have B1 : Blk W (w.heap.size + 1) p.cells.toArray 81 := by rw [hW]; exact (Blk.new_at _ _ _ _ (by simp)).alloc _
  have B2 : Blk W (w.heap.size + 1 + 1) zA 38 := by rw [hW]; exact Blk.new_at _ _ _ _ (by simp)
  have B4 : Below w.heap.size w W := by
    rw [hW]
    repeat (first | exact Below.refl _ _ | (refine Below.setCell ?_ (by simp <;> omega) _) | (refine Below.alloc ?_ (by simp <;> omega) _) | refine Below.drew ?_)
  rw [← hW]
  clear hW
  have hnil := app_nil_nil
  refine regionQ [(7, fun w' => w'.cell? ⟨w.heap.size, 6, none⟩ = some (.slice none 0 0)), (1000, fun w' => Blk w' (w.heap.size + 1) p.cells.toArray 81)] (by kernel_rfl) ⟨B0.cell 6, B1, trivial⟩ fun KQ hKQ => ?_
  refine takeQ 0 rfl (by kernel_rfl) rfl (by kernel_rfl) fun K hK => ?_
  simp only [List.getElem_toArray, List.getElem_cons_zero, List.getElem_cons_succ]
  go_big_quiet_op
  refine hK _ ?_
  clear hK K
  refine loadQ 1 rfl (by kernel_rfl) (by kernel_rfl) rfl rfl 0 rfl (by kernel_rfl) _ (fun w' hf => by (go_simp <;> with_reducible rfl)) ?_
  simp only [Act.put, List.getElem_toArray, List.getElem_cons_zero, List.getElem_cons_succ, List.setIfInBounds_toArray, List.set_cons_zero, List.set_cons_succ]
  refine loadQ 3 rfl (by kernel_rfl) (by kernel_rfl) rfl rfl 1 rfl (by kernel_rfl) _ (fun w' hf => run_load_blk hf 81 Tryz.underlying81 rfl (by kernel_rfl)) ?_
  simp only [Act.put, List.getElem_toArray, List.getElem_cons_zero, List.getElem_cons_succ, List.setIfInBounds_toArray, List.set_cons_zero, List.set_cons_succ]
  refine appQ 2 rfl (by kernel_rfl) (by kernel_rfl) rfl rfl rfl (.slice none 0 0) app_nil_nil ?_
  simp only [Act.put, List.getElem_toArray, List.getElem_cons_zero, List.getElem_cons_succ, List.setIfInBounds_toArray, List.set_cons_zero, List.set_cons_succ]
  refine stepQ 4 rfl (by kernel_rfl) (by decide) (by kernel_rfl) fun K hK => ?_
  simp only [List.getElem_toArray, List.getElem_cons_zero, List.getElem_cons_succ]
  refine wp_slice_one _ rfl ePack (by decide) (by decide) (.agg p.cells.toArray) rfl rfl ?_
  refine hK _ _ ⟨⟨fun _ => (B0.drew.alloc _).cell 6, fun _ => B1.drew.alloc _, trivial⟩, ?_⟩
  clear hK K
  refine stepQ 5 rfl (by kernel_rfl) (by decide) (by kernel_rfl) fun K hK => ?_
  simp only [List.getElem_toArray, List.getElem_cons_zero, List.getElem_cons_succ]
  refine wp_append_grp _ _ rfl ePack (by decide) w.heap.size (.slice none 0 0) 0 [] rfl (World.ownsRow_nil _ _ _ _) W.drew.heap.size p.cells 81 rfl (Blk.new _ _ _) rfl p.one (by decide) (by decide) (by have := B4.size; simp; omega) fun v' w' r1 g1 n1 => ?_
  simp only [Nat.zero_add, List.nil_append] at r1
  obtain ⟨av, cv, rfl⟩ := own_slice r1
  have hw1 : Wrote [] (W.drew.alloc (.cells (Value.agg p.cells.toArray).cells 81)) w' := Wrote.of_grown g1 (fun k hk => by cases hk)
  have C0 := (B0.drew.alloc (.cells (Value.agg p.cells.toArray).cells 81)).wrote hw1 (by simp)
  have C1 := (B1.drew.alloc (.cells (Value.agg p.cells.toArray).cells 81)).wrote hw1 (by simp)
  have C2 := (B2.drew.alloc (.cells (Value.agg p.cells.toArray).cells 81)).wrote hw1 (by simp)
  have C4 := below_wrote (B4.drew.alloc B4.drew.size (.cells (Value.agg p.cells.toArray).cells 81)) hw1 (by simp)
  refine hK _ _ ⟨⟨fun _ => C0.cell 6, fun _ => C1, trivial⟩, ?_⟩
  clear hK K n1
  simp only [Act.put, List.getElem_toArray, List.getElem_cons_zero, List.getElem_cons_succ, List.setIfInBounds_toArray, List.set_cons_zero, List.set_cons_succ]
  refine takeQ 6 rfl (by kernel_rfl) rfl (by kernel_rfl) fun K hK => ?_
  simp only [List.getElem_toArray, List.getElem_cons_zero, List.getElem_cons_succ]
  go_big_quiet_op
  refine hK _ ?_
  clear hK K
  have q6 : w'.cell? ⟨w.heap.size, 6, none⟩ = some (.slice none 0 0) := C0.cell 6
  have z6 := C0.frozen 6
  have R1 := hid r1
  have C0 := hid C0; have C1 := hid C1; have C2 := hid C2; have C4 := hid C4
  clear r1 g1 hw1
  refine stepQ 7 rfl (by kernel_rfl) (by decide) (by kernel_rfl) fun K hK => ?_
  simp only [List.getElem_toArray, List.getElem_cons_zero, List.getElem_cons_succ]
  go_simp
  have D0 := (C0.out.set 6 (.slice av 1 cv))
  have D1 := C1.out.set_ne ⟨w.heap.size, 6, none⟩ (by simp) (.slice av 1 cv)
  have D2 := C2.out.set_ne ⟨w.heap.size, 6, none⟩ (by simp; omega) (.slice av 1 cv)
  have hst : Wrote [w.heap.size] w' (w'.setCell ⟨w.heap.size, 6, none⟩ (.slice av 1 cv)) := Wrote.setCell w' ⟨w.heap.size, 6, none⟩ (by simp) _
  have D4 := below_wrote C4.out hst (by simp)
  have RO := not_own R1.out hst (fun x hx hb => by simp at hx; subst hx; exact block_not_row C0.out (by decide) R1.out (mem_blk.1 hb).symm)
  obtain ⟨W2, hW2⟩ : ∃ W2, w'.setCell ⟨w.heap.size, 6, none⟩ (.slice av 1 cv) = W2 := ⟨_, rfl⟩
  rw [hW2] at D0 D1 D2 D4 RO ⊢
  clear hW2 hst
  refine hK _ _ ⟨⟨fun h => (by simp at h), fun _ => D1, trivial⟩, ?_⟩
  clear hK K
  refine doneQ (by kernel_rfl) (hKQ.out _ _ ?_)
  clear hKQ KQ
  go_wp2_with (first
    | (refine wpList_load_blk rfl 38 _ rfl w.heap.size #[.string ⟨#[]⟩, .int .i64 0, .int .i64 0, .int .i64 0, .int .i64 0, .slice none 0 0, .slice av 1 cv, .slice none 0 0] rfl D0 Tryz.underlying38 rfl (by kernel_rfl) ?_)
    | (refine wpList_store_blk rfl 38 38 _ _ rfl 8 (fun w => by kernel_rfl) (w.heap.size + 1 + 1) _ #[.string ⟨#[]⟩, .int .i64 0, .int .i64 0, .int .i64 0, .int .i64 0, .slice none 0 0, .slice av 1 cv, .slice none 0 0] rfl rfl D2 rfl rfl (by simp [Value.oneCell']) fun w5 h5 g5 => ?_))
  change bodyPost Tryz.prog Tryz.f100 _ _ _ _
  refine bodyPost_ret (v := .agg #[.string ⟨#[]⟩, .int .i64 0, .int .i64 0, .int .i64 0, .int .i64 0, .slice none 0 0, .slice av 1 cv, .slice none 0 0]) ?_ rfl ⟨av, 1, cv, rfl, ?_, below_wrote D4 g5 (by simp; omega)⟩
  · exact results_cell1 Tryz.results100 rfl (run_loadVar_blk (P := Tryz.prog) h5 38 Tryz.underlying38 rfl (by kernel_rfl))
  · exact not_own RO g5 (fun x hx hb => by simp at hx; subst hx; exact block_not_row D2 (by decide) RO (mem_blk.1 hb).symm)
end Go.Proofs.YtoinabapaeebfaaGreatDoor
