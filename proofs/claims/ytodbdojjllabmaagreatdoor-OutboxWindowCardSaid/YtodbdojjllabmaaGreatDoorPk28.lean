/- The reference's outbox, while it is empty. -/
import Derived.Test.YtodbdojjllabmaaGreatDoorPk27
namespace Go.Proofs.YtodbdojjllabmaaGreatDoor
open Go.RowKit Go.Shelf

def refA (v : Value) : Array Value := #[.string ⟨#[]⟩, .int .i64 0, .int .i64 0, .int .i64 0, .int .i64 0, .slice none 0 0, v, .slice none 0 0]
def rowZ : Array Value := #[.int .i64 1, .string ⟨#[]⟩, .int .i64 0, .int .i64 0, .string ⟨#[]⟩, .string ⟨#[]⟩, .int .i64 0, .bool false, .int .i64 0]

set_option maxRecDepth 100000 in
set_option maxHeartbeats 400000 in
theorem r_Session (a : Option Addr) (n c : Nat) (w : World) :
    Calls Tryz.prog 66 #[.agg (refA (.slice a n c))] w fun e w' => e = .returned (.agg rowZ) ∧ Below w.heap.size w w' := by
  unfold refA
  go_enter Tryz.func66, Tryz.ntmps66
  go_wp2
  go_returns
  refine ⟨rfl, ?_⟩
  repeat (first | exact Below.refl _ _ | (refine Below.setCell ?_ (by simp <;> omega) _) | (refine Below.alloc ?_ (by simp <;> omega) _) | refine Below.drew ?_)
set_option maxRecDepth 100000 in
set_option maxHeartbeats 400000 in
theorem r_send (a : Option Addr) (n c : Nat) (w : World) :
    Calls Tryz.prog 69 #[.agg (refA (.slice a n c))] w fun e w' => e = .returned (.agg (refA (.slice a n c))) ∧ Below w.heap.size w w' := by
  unfold refA
  go_enter Tryz.func69, Tryz.ntmps69
  go_wp2
  go_loopw [3] (fun i wr => i = .int .i64 0 ∧ wr = ((w.alloc (.cells (refA (.slice a n c)) 59)).alloc (.cells (refA (.slice none 0 0)) 59))) (fun _ _ => 0)
  case atStart => exact ⟨rfl, rfl⟩
  case round =>
    obtain ⟨rfl, rfl⟩ := hrel
    unfold refA
    go_wp2
    change bodyPost Tryz.prog Tryz.f69 _ _ _ _
    refine bodyPost_ret (v := .agg #[.string ⟨#[]⟩, .int .i64 0, .int .i64 0, .int .i64 0, .int .i64 0, .slice none 0 0, .slice a n c, .slice none 0 0]) (by simp [results, Tryz.results69, go_sem]) rfl ⟨rfl, ?_⟩
    repeat (first | exact Below.refl _ _ | (refine Below.setCell ?_ (by simp <;> omega) _) | (refine Below.alloc ?_ (by simp <;> omega) _) | refine Below.drew ?_)
set_option maxRecDepth 100000 in
set_option maxHeartbeats 400000 in
theorem r_find (z : Int) (w : World) :
    Calls Tryz.prog 70 #[.agg (refA (.slice none 0 0)), .int .i64 z] w fun e w' => e = .returned (.int .i64 (-1)) ∧ Below w.heap.size w w' := by
  unfold refA
  go_enter Tryz.func70, Tryz.ntmps70
  go_wp2
  go_loopw [5] (fun i wr => i = .int .i64 0 ∧ wr = (w.alloc (.cells (refA (.slice none 0 0)) 59))) (fun _ _ => 0)
  case atStart => exact ⟨rfl, rfl⟩
  case round =>
    obtain ⟨rfl, rfl⟩ := hrel
    unfold refA
    go_wp2
    go_ret
    refine ⟨rfl, ?_⟩
    repeat (first | exact Below.refl _ _ | (refine Below.setCell ?_ (by simp <;> omega) _) | (refine Below.alloc ?_ (by simp <;> omega) _) | refine Below.drew ?_)

def didA (v : Value) : Value := .agg #[v, .slice none 0 0]
set_option maxRecDepth 100000 in
set_option maxHeartbeats 800000 in
theorem r_done (a : Option Addr) (n c : Nat) (w : World) :
    Calls Tryz.prog 68 #[.agg (refA (.slice a n c)), .agg rowZ] w fun e w' => e = .returned (.tuple #[.agg (refA (.slice none 0 0)), didA (.slice a n c)]) ∧ Below w.heap.size w w' := by
  have CS := hid (r_Session a n c)
  unfold refA rowZ at *
  unfold didA
  go_enter Tryz.func68, Tryz.ntmps68
  go_wp2_with fail
  obtain ⟨W, hW⟩ : ∃ W, W = ((((w.alloc (.cells #[.string ⟨#[]⟩, .int .i64 0, .int .i64 0, .int .i64 0, .int .i64 0, .slice none 0 0, .slice a n c, .slice none 0 0] 59)).alloc (.cells #[.int .i64 1, .string ⟨#[]⟩, .int .i64 0, .int .i64 0, .string ⟨#[]⟩, .string ⟨#[]⟩, .int .i64 0, .bool false, .int .i64 0] 30)).alloc (.cells #[.string ⟨#[]⟩, .int .i64 0, .int .i64 0, .int .i64 0, .int .i64 0, .slice none 0 0, .slice none 0 0, .slice none 0 0] 59)).alloc (.cells #[.slice none 0 0, .slice none 0 0] 34)) := ⟨_, rfl⟩
  have B0 : Blk W w.heap.size #[.string ⟨#[]⟩, .int .i64 0, .int .i64 0, .int .i64 0, .int .i64 0, .slice none 0 0, .slice a n c, .slice none 0 0] 59 := by rw [hW]; exact (((Blk.new w _ _).alloc _).alloc _).alloc _
  have B1 : Blk W (w.heap.size + 1) #[.int .i64 1, .string ⟨#[]⟩, .int .i64 0, .int .i64 0, .string ⟨#[]⟩, .string ⟨#[]⟩, .int .i64 0, .bool false, .int .i64 0] 30 := by rw [hW]; exact ((Blk.new_at _ _ _ _ (by simp)).alloc _).alloc _
  have B2 : Blk W (w.heap.size + 1 + 1) #[.string ⟨#[]⟩, .int .i64 0, .int .i64 0, .int .i64 0, .int .i64 0, .slice none 0 0, .slice none 0 0, .slice none 0 0] 59 := by rw [hW]; exact (Blk.new_at _ _ _ _ (by simp)).alloc _
  have B3 : Blk W (w.heap.size + 1 + 1 + 1) #[.slice none 0 0, .slice none 0 0] 34 := by rw [hW]; exact Blk.new_at _ _ _ _ (by simp)
  have B4 : Below w.heap.size w W := by
    rw [hW]
    repeat (first | exact Below.refl _ _ | (refine Below.setCell ?_ (by simp <;> omega) _) | (refine Below.alloc ?_ (by simp <;> omega) _) | refine Below.drew ?_)
  rw [← hW]
  clear hW
  refine regionQ [(1000, fun w' => Blk w' w.heap.size #[.string ⟨#[]⟩, .int .i64 0, .int .i64 0, .int .i64 0, .int .i64 0, .slice none 0 0, .slice a n c, .slice none 0 0] 59), (1000, fun w' => Blk w' (w.heap.size + 1) #[.int .i64 1, .string ⟨#[]⟩, .int .i64 0, .int .i64 0, .string ⟨#[]⟩, .string ⟨#[]⟩, .int .i64 0, .bool false, .int .i64 0] 30)] (by kernel_rfl) ⟨B0, B1, trivial⟩ fun KQ hKQ => ?_
  refine loadQ 0 rfl (by kernel_rfl) (by kernel_rfl) rfl rfl 0 rfl (by kernel_rfl) _ (fun w' hf => run_load_blk hf 59 Tryz.underlying59 rfl (by kernel_rfl)) ?_
  simp only [Act.put, List.getElem_toArray, List.getElem_cons_zero, List.getElem_cons_succ, List.setIfInBounds_toArray, List.set_cons_zero, List.set_cons_succ]
  refine loadQ 2 rfl (by kernel_rfl) (by kernel_rfl) rfl rfl 1 rfl (by kernel_rfl) _ (fun w' hf => run_load_blk hf 30 Tryz.underlying30 rfl (by kernel_rfl)) ?_
  simp only [Act.put, List.getElem_toArray, List.getElem_cons_zero, List.getElem_cons_succ, List.setIfInBounds_toArray, List.set_cons_zero, List.set_cons_succ]
  refine stepQ 1 rfl (by kernel_rfl) (by decide) (by kernel_rfl) fun K hK => ?_
  simp only [List.getElem_toArray, List.getElem_cons_zero, List.getElem_cons_succ]
  go_simp
  refine (CS.out _).mono ?_
  rintro e w1 ⟨rfl, hb1⟩
  have B4 := B4.drew.trans (hb1.mono B4.drew.size)
  have B0 := B0.drew.below hb1
  have B1 := B1.drew.below hb1
  have B2 := B2.drew.below hb1
  have B3 := B3.drew.below hb1
  refine hK _ _ ⟨⟨fun _ => B0, fun _ => B1, trivial⟩, ?_⟩
  clear hK K
  refine takeQ 3 rfl (by kernel_rfl) rfl (by kernel_rfl) fun K hK => ?_
  simp only [List.getElem_toArray, List.getElem_cons_zero, List.getElem_cons_succ]
  go_big_quiet_op
  refine hK _ ?_
  clear hK K
  refine doneQ (by kernel_rfl) (hKQ.out _ _ ?_)
  clear hKQ KQ
  clear B1
  have k6 : w1.cell? ⟨w.heap.size, 6, none⟩ = some (.slice a n c) := B0.cell 6
  have k7 : w1.cell? ⟨w.heap.size, 7, none⟩ = some (.slice none 0 0) := B0.cell 7
  have lt0 : w.heap.size < w1.heap.size := B0.lt
  have B0 := hid B0
  have B2 := hid B2
  have B3 := hid B3
  have B4 := hid B4
  go_wp2_with (
    refine wpList_store_blk rfl 34 34 _ _ rfl 2 (fun w => by kernel_rfl) w1.heap.size _ #[.slice a n c, .slice none 0 0] rfl rfl (Blk.new w1 _ _) rfl rfl (by simp [Value.oneCell']) fun w2 hb2 hw2 => ?_
    have B5 := hid hb2
    have lt2 : w.heap.size ∉ [w1.heap.size] := by simp; omega
    have q6 : w2.cell? ⟨w.heap.size, 6, none⟩ = some (.slice a n c) := ((B0.out.alloc _).wrote hw2 lt2).cell 6
    have q7 : w2.cell? ⟨w.heap.size, 7, none⟩ = some (.slice none 0 0) := ((B0.out.alloc _).wrote hw2 lt2).cell 7
    have z6 := ((B0.out.alloc _).wrote hw2 lt2).frozen 6
    have z7 := ((B0.out.alloc _).wrote hw2 lt2).frozen 7
    have hw2 := hid hw2)
  obtain ⟨W4, hW4⟩ : ∃ W4, W4 = (w2.setCell ⟨w.heap.size, 6, none⟩ (.slice none 0 0)).setCell ⟨w.heap.size, 7, none⟩ (.slice none 0 0) := ⟨_, rfl⟩
  rw [← hW4]
  have hw4 : Wrote [w.heap.size, w1.heap.size] w1 W4 := by
    rw [hW4]
    exact ((((Wrote.refl [w.heap.size, w1.heap.size] w1).trans (Wrote.of_below ((Below.refl _ w1).alloc (Nat.le_refl _) _))).trans (hw2.out.sub (by simp))).trans (Wrote.setCell w2 _ (by simp) _)).trans (Wrote.setCell _ _ (by simp) _)
  have C0 : Blk W4 w.heap.size #[.string ⟨#[]⟩, .int .i64 0, .int .i64 0, .int .i64 0, .int .i64 0, .slice none 0 0, .slice none 0 0, .slice none 0 0] 59 := by
    rw [hW4]
    exact ((((B0.out.alloc _).wrote hw2.out lt2).set 6 _).set 7 _)
  have C5 : Blk W4 w1.heap.size #[.slice a n c, .slice none 0 0] 34 := by
    rw [hW4]
    exact (B5.out.set_ne ⟨w.heap.size, 6, none⟩ (by simp; omega) _).set_ne ⟨w.heap.size, 7, none⟩ (by simp; omega) _
  have n2 : w.heap.size + 1 + 1 < w1.heap.size := B2.out.lt
  have n3 : w.heap.size + 1 + 1 + 1 < w1.heap.size := B3.out.lt
  have C2 := hid (B2.out.wrote hw4 (by simp; omega))
  have C3 := hid (B3.out.wrote hw4 (by simp; omega))
  have C4 := hid (below_wrote B4.out hw4 (by simp; omega))
  clear hW4
  refine regionQ [(1000, fun w' => Blk w' w.heap.size #[.string ⟨#[]⟩, .int .i64 0, .int .i64 0, .int .i64 0, .int .i64 0, .slice none 0 0, .slice none 0 0, .slice none 0 0] 59), (1000, fun w' => Blk w' w1.heap.size #[.slice a n c, .slice none 0 0] 34)] (by kernel_rfl) ⟨C0, C5, trivial⟩ fun KQ hKQ => ?_
  refine loadQ 0 rfl (by kernel_rfl) (by kernel_rfl) rfl rfl 0 rfl (by kernel_rfl) _ (fun w' hf => run_load_blk hf 59 Tryz.underlying59 rfl (by kernel_rfl)) ?_
  simp only [Act.put, List.getElem_toArray, List.getElem_cons_zero, List.getElem_cons_succ, List.setIfInBounds_toArray, List.set_cons_zero, List.set_cons_succ]
  refine loadQ 1 rfl (by kernel_rfl) (by kernel_rfl) rfl rfl 1 rfl (by kernel_rfl) _ (fun w' hf => run_load_blk hf 34 Tryz.underlying34 rfl (by kernel_rfl)) ?_
  simp only [Act.put, List.getElem_toArray, List.getElem_cons_zero, List.getElem_cons_succ, List.setIfInBounds_toArray, List.set_cons_zero, List.set_cons_succ]
  refine stepQ 2 rfl (by kernel_rfl) (by decide) (by kernel_rfl) fun K hK => ?_
  simp only [List.getElem_toArray, List.getElem_cons_zero, List.getElem_cons_succ]
  refine wp_store_whole 59 59 _ _ rfl 8 (fun w => by kernel_rfl) (w.heap.size + 1 + 1) _ #[.string ⟨#[]⟩, .int .i64 0, .int .i64 0, .int .i64 0, .int .i64 0, .slice none 0 0, .slice none 0 0, .slice none 0 0] rfl rfl C2.out.drew rfl rfl (by simp [Value.oneCell']) fun w5 h5 g5 => ?_
  have D0 := C0.drew.wrote g5 (by simp; omega)
  have D5 := C5.drew.wrote g5 (by simp; omega)
  have D3 := C3.out.drew.wrote g5 (by simp)
  have D4 := below_wrote C4.out.drew g5 (by simp; omega)
  refine hK _ _ ⟨⟨fun _ => D0, fun _ => D5, trivial⟩, ?_⟩
  clear hK K
  refine stepQ 3 rfl (by kernel_rfl) (by decide) (by kernel_rfl) fun K hK => ?_
  simp only [List.getElem_toArray, List.getElem_cons_zero, List.getElem_cons_succ]
  refine wp_store_whole 34 34 _ _ rfl 2 (fun w => by kernel_rfl) (w.heap.size + 1 + 1 + 1) _ #[.slice a n c, .slice none 0 0] rfl rfl D3 rfl rfl (by simp [Value.oneCell']) fun w6 h6 g6 => ?_
  have E0 := D0.wrote g6 (by simp; omega)
  have E5 := D5.wrote g6 (by simp; omega)
  have E2 := h5.wrote g6 (by simp)
  have E4 := below_wrote D4 g6 (by simp; omega)
  refine hK _ _ ⟨⟨fun _ => E0, fun _ => E5, trivial⟩, ?_⟩
  clear hK K
  refine doneQ (by kernel_rfl) (hKQ.out _ _ ?_)
  clear hKQ KQ
  go_wp2
  change bodyPost Tryz.prog Tryz.f68 _ _ _ _
  refine bodyPost_ret (v := .tuple #[.agg #[.string ⟨#[]⟩, .int .i64 0, .int .i64 0, .int .i64 0, .int .i64 0, .slice none 0 0, .slice none 0 0, .slice none 0 0], .agg #[.slice a n c, .slice none 0 0]]) ?_ rfl ⟨rfl, E4⟩
  have l1 := run_loadVar_blk (P := Tryz.prog) E2 59 Tryz.underlying59 rfl (by kernel_rfl)
  have l2 := run_loadVar_blk (P := Tryz.prog) h6 34 Tryz.underlying34 rfl (by kernel_rfl)
  exact results_cc Tryz.results68 rfl rfl l1 l2

def zA : Array Value := #[.string ⟨#[]⟩, .int .i64 0, .int .i64 0, .int .i64 0, .int .i64 0, .slice none 0 0, .slice none 0 0, .slice none 0 0]
set_option maxRecDepth 100000 in
set_option maxHeartbeats 800000 in
theorem r_Send (w : World) :
    Calls Tryz.prog 43 #[.agg (refA (.slice none 0 0))] w fun e w' => e = .returned (.tuple #[.agg (refA (.slice none 0 0)), didA (.slice none 0 0)]) ∧ Below w.heap.size w w' := by
  have CS := hid (r_Session none 0 0)
  have CE := hid (r_send none 0 0)
  have CD := hid (r_done none 0 0)
  unfold refA rowZ didA at *
  go_enter Tryz.func43, Tryz.ntmps43
  go_wp2_with fail
  obtain ⟨W, hW⟩ : ∃ W, W = (((w.alloc (.cells #[.string ⟨#[]⟩, .int .i64 0, .int .i64 0, .int .i64 0, .int .i64 0, .slice none 0 0, .slice none 0 0, .slice none 0 0] 59)).alloc (.cells #[.string ⟨#[]⟩, .int .i64 0, .int .i64 0, .int .i64 0, .int .i64 0, .slice none 0 0, .slice none 0 0, .slice none 0 0] 59)).alloc (.cells #[.slice none 0 0, .slice none 0 0] 34)) := ⟨_, rfl⟩
  have B0 : Blk W w.heap.size zA 59 := by rw [hW]; exact ((Blk.new w _ _).alloc _).alloc _
  have B2 : Blk W (w.heap.size + 1) zA 59 := by rw [hW]; exact (Blk.new_at _ _ _ _ (by simp)).alloc _
  have B3 : Blk W (w.heap.size + 1 + 1) #[.slice none 0 0, .slice none 0 0] 34 := by rw [hW]; exact Blk.new_at _ _ _ _ (by simp)
  have B4 : Below w.heap.size w W := by
    rw [hW]
    repeat (first | exact Below.refl _ _ | (refine Below.setCell ?_ (by simp <;> omega) _) | (refine Below.alloc ?_ (by simp <;> omega) _) | refine Below.drew ?_)
  rw [← hW]
  clear hW
  refine (CS.out _).mono ?_
  rintro e w1 ⟨rfl, hb1⟩
  replace B4 := B4.trans (hb1.mono B4.size)
  replace B0 := B0.below hb1
  replace B2 := B2.below hb1
  replace B3 := B3.below hb1
  clear hb1 W
  obtain ⟨W, hW⟩ : ∃ W, W = w1 := ⟨_, rfl⟩
  subst hW
  have lt0 : w.heap.size < W.heap.size := B0.lt
  have b2 : w.heap.size + 1 < W.heap.size := B2.lt
  have b3 : w.heap.size + 1 + 1 < W.heap.size := B3.lt
  go_wp2_with (
    refine wpList_store_blk rfl 30 30 _ _ rfl 9 (fun w => by kernel_rfl) W.heap.size _ #[.int .i64 1, .string ⟨#[]⟩, .int .i64 0, .int .i64 0, .string ⟨#[]⟩, .string ⟨#[]⟩, .int .i64 0, .bool false, .int .i64 0] rfl rfl (Blk.new W _ _) rfl rfl (by simp [Value.oneCell']) fun w2 hb2 hw2 => ?_
    have C1 := hb2
    have C0 := (B0.alloc _).wrote hw2 (by simp; omega)
    have C2 := (B2.alloc _).wrote hw2 (by simp; omega)
    have C3 := (B3.alloc _).wrote hw2 (by simp; omega)
    have C4 := below_wrote (B4.alloc B4.size _) hw2 (by simp; omega)
    clear hw2 hb2)
  refine regionQ [(1000, fun w' => Blk w' w.heap.size #[.string ⟨#[]⟩, .int .i64 0, .int .i64 0, .int .i64 0, .int .i64 0, .slice none 0 0, .slice none 0 0, .slice none 0 0] 59), (1000, fun w' => Blk w' W.heap.size #[.int .i64 1, .string ⟨#[]⟩, .int .i64 0, .int .i64 0, .string ⟨#[]⟩, .string ⟨#[]⟩, .int .i64 0, .bool false, .int .i64 0] 30)] (by kernel_rfl) ⟨C0, C1, trivial⟩ fun KQ hKQ => ?_
  refine loadQ 0 rfl (by kernel_rfl) (by kernel_rfl) rfl rfl 0 rfl (by kernel_rfl) _ (fun w' hf => run_load_blk hf 59 Tryz.underlying59 rfl (by kernel_rfl)) ?_
  simp only [Act.put, List.getElem_toArray, List.getElem_cons_zero, List.getElem_cons_succ, List.setIfInBounds_toArray, List.set_cons_zero, List.set_cons_succ]
  refine loadQ 2 rfl (by kernel_rfl) (by kernel_rfl) rfl rfl 1 rfl (by kernel_rfl) _ (fun w' hf => run_load_blk hf 30 Tryz.underlying30 rfl (by kernel_rfl)) ?_
  simp only [Act.put, List.getElem_toArray, List.getElem_cons_zero, List.getElem_cons_succ, List.setIfInBounds_toArray, List.set_cons_zero, List.set_cons_succ]
  refine stepQ 1 rfl (by kernel_rfl) (by decide) (by kernel_rfl) fun K hK => ?_
  simp only [List.getElem_toArray, List.getElem_cons_zero, List.getElem_cons_succ]
  go_simp
  refine (CE.out _).mono ?_
  rintro e w3 ⟨rfl, hb3⟩
  replace C4 := C4.drew.trans (hb3.mono C4.drew.size)
  replace C0 := C0.drew.below hb3
  replace C1 := C1.drew.below hb3
  replace C2 := C2.drew.below hb3
  replace C3 := C3.drew.below hb3
  clear hb3
  refine hK _ _ ⟨⟨fun _ => C0, fun _ => C1, trivial⟩, ?_⟩
  clear hK K
  refine stepQ 3 rfl (by kernel_rfl) (by decide) (by kernel_rfl) fun K hK => ?_
  simp only [List.getElem_toArray, List.getElem_cons_zero, List.getElem_cons_succ]
  go_simp
  refine (CD.out _).mono ?_
  rintro e w4 ⟨rfl, hb4⟩
  replace C4 := C4.trans (hb4.mono C4.size)
  replace C0 := C0.below hb4
  replace C1 := C1.below hb4
  replace C2 := C2.below hb4
  replace C3 := C3.below hb4
  clear hb4
  refine hK _ _ ⟨⟨fun _ => C0, fun _ => C1, trivial⟩, ?_⟩
  clear hK K
  refine takeQ 4 rfl (by kernel_rfl) rfl (by kernel_rfl) fun K hK => ?_
  simp only [List.getElem_toArray, List.getElem_cons_zero, List.getElem_cons_succ]
  go_big_quiet_op
  refine hK _ ?_
  clear hK K
  refine takeQ 5 rfl (by kernel_rfl) rfl (by kernel_rfl) fun K hK => ?_
  simp only [List.getElem_toArray, List.getElem_cons_zero, List.getElem_cons_succ]
  go_big_quiet_op
  refine hK _ ?_
  clear hK K
  refine stepQ 6 rfl (by kernel_rfl) (by decide) (by kernel_rfl) fun K hK => ?_
  simp only [List.getElem_toArray, List.getElem_cons_zero, List.getElem_cons_succ]
  refine wp_store_whole 59 59 _ _ rfl 8 (fun w => by kernel_rfl) (w.heap.size + 1) _ #[.string ⟨#[]⟩, .int .i64 0, .int .i64 0, .int .i64 0, .int .i64 0, .slice none 0 0, .slice none 0 0, .slice none 0 0] rfl rfl C2 rfl rfl (by simp [Value.oneCell']) fun w5 h5 g5 => ?_
  have D0 := C0.wrote g5 (by simp)
  have D1 := C1.wrote g5 (by simp; omega)
  have D3 := C3.wrote g5 (by simp)
  have D4 := below_wrote C4 g5 (by simp)
  refine hK _ _ ⟨⟨fun _ => D0, fun _ => D1, trivial⟩, ?_⟩
  clear hK K
  refine stepQ 7 rfl (by kernel_rfl) (by decide) (by kernel_rfl) fun K hK => ?_
  simp only [List.getElem_toArray, List.getElem_cons_zero, List.getElem_cons_succ]
  refine wp_store_whole 34 34 _ _ rfl 2 (fun w => by kernel_rfl) (w.heap.size + 1 + 1) _ #[.slice none 0 0, .slice none 0 0] rfl rfl D3 rfl rfl (by simp [Value.oneCell']) fun w6 h6 g6 => ?_
  have E0 := D0.wrote g6 (by simp; omega)
  have E1 := D1.wrote g6 (by simp; omega)
  have E2 := h5.wrote g6 (by simp)
  have E4 := below_wrote D4 g6 (by simp; omega)
  refine hK _ _ ⟨⟨fun _ => E0, fun _ => E1, trivial⟩, ?_⟩
  clear hK K
  refine doneQ (by kernel_rfl) (hKQ.out _ _ ?_)
  clear hKQ KQ
  go_wp2
  change bodyPost Tryz.prog Tryz.f43 _ _ _ _
  refine bodyPost_ret (v := .tuple #[.agg #[.string ⟨#[]⟩, .int .i64 0, .int .i64 0, .int .i64 0, .int .i64 0, .slice none 0 0, .slice none 0 0, .slice none 0 0], .agg #[.slice none 0 0, .slice none 0 0]]) ?_ rfl ⟨rfl, E4⟩
  have l1 := run_loadVar_blk (P := Tryz.prog) E2 59 Tryz.underlying59 rfl (by kernel_rfl)
  have l2 := run_loadVar_blk (P := Tryz.prog) h6 34 Tryz.underlying34 rfl (by kernel_rfl)
  exact results_cc Tryz.results43 rfl rfl l1 l2
set_option maxRecDepth 100000 in
set_option maxHeartbeats 800000 in
theorem r_Anew (w : World) :
    Calls Tryz.prog 45 #[.agg (refA (.slice none 0 0))] w fun e w' => e = .returned (.tuple #[.agg (refA (.slice none 0 0)), didA (.slice none 0 0)]) ∧ Below w.heap.size w w' := by
  have CS := hid (r_Session none 0 0)
  have CE := hid (r_send none 0 0)
  have CD := hid (r_done none 0 0)
  unfold refA rowZ didA at *
  go_enter Tryz.func45, Tryz.ntmps45
  go_wp2_with fail
  obtain ⟨W, hW⟩ : ∃ W, W = (((w.alloc (.cells #[.string ⟨#[]⟩, .int .i64 0, .int .i64 0, .int .i64 0, .int .i64 0, .slice none 0 0, .slice none 0 0, .slice none 0 0] 59)).alloc (.cells #[.string ⟨#[]⟩, .int .i64 0, .int .i64 0, .int .i64 0, .int .i64 0, .slice none 0 0, .slice none 0 0, .slice none 0 0] 59)).alloc (.cells #[.slice none 0 0, .slice none 0 0] 34)) := ⟨_, rfl⟩
  have B0 : Blk W w.heap.size zA 59 := by rw [hW]; exact ((Blk.new w _ _).alloc _).alloc _
  have B2 : Blk W (w.heap.size + 1) zA 59 := by rw [hW]; exact (Blk.new_at _ _ _ _ (by simp)).alloc _
  have B3 : Blk W (w.heap.size + 1 + 1) #[.slice none 0 0, .slice none 0 0] 34 := by rw [hW]; exact Blk.new_at _ _ _ _ (by simp)
  have B4 : Below w.heap.size w W := by
    rw [hW]
    repeat (first | exact Below.refl _ _ | (refine Below.setCell ?_ (by simp <;> omega) _) | (refine Below.alloc ?_ (by simp <;> omega) _) | refine Below.drew ?_)
  rw [← hW]
  clear hW
  refine (CS.out _).mono ?_
  rintro e w1 ⟨rfl, hb1⟩
  replace B4 := B4.trans (hb1.mono B4.size)
  replace B0 := B0.below hb1
  replace B2 := B2.below hb1
  replace B3 := B3.below hb1
  clear hb1 W
  obtain ⟨W, hW⟩ : ∃ W, W = w1 := ⟨_, rfl⟩
  subst hW
  have lt0 : w.heap.size < W.heap.size := B0.lt
  have b2 : w.heap.size + 1 < W.heap.size := B2.lt
  have b3 : w.heap.size + 1 + 1 < W.heap.size := B3.lt
  go_wp2_with (
    refine wpList_store_blk rfl 30 30 _ _ rfl 9 (fun w => by kernel_rfl) W.heap.size _ #[.int .i64 1, .string ⟨#[]⟩, .int .i64 0, .int .i64 0, .string ⟨#[]⟩, .string ⟨#[]⟩, .int .i64 0, .bool false, .int .i64 0] rfl rfl (Blk.new W _ _) rfl rfl (by simp [Value.oneCell']) fun w2 hb2 hw2 => ?_
    have C1 := hb2
    have C0 := (B0.alloc _).wrote hw2 (by simp; omega)
    have C2 := (B2.alloc _).wrote hw2 (by simp; omega)
    have C3 := (B3.alloc _).wrote hw2 (by simp; omega)
    have C4 := below_wrote (B4.alloc B4.size _) hw2 (by simp; omega)
    clear hw2 hb2)
  have B0 := hid C0; have B1 := hid C1; have B2 := hid C2; have B3 := hid C3; have B4 := hid C4
  have k5 : w2.cell? ⟨w.heap.size, 5, none⟩ = some (.slice none 0 0) := C0.cell 5
  clear C0 C1 C2 C3 C4
  go_loopw [5] (fun i wr => i = .int .i64 0 ∧ wr = w2) (fun _ _ => 0)
  case atStart => exact ⟨rfl, rfl⟩
  case round =>
    obtain ⟨rfl, rfl⟩ := hrel
    go_wp2
    have C0 := B0.out; have C1 := B1.out; have C2 := B2.out; have C3 := B3.out; have C4 := B4.out
    refine regionQ [(1000, fun w' => Blk w' w.heap.size #[.string ⟨#[]⟩, .int .i64 0, .int .i64 0, .int .i64 0, .int .i64 0, .slice none 0 0, .slice none 0 0, .slice none 0 0] 59), (1000, fun w' => Blk w' W.heap.size #[.int .i64 1, .string ⟨#[]⟩, .int .i64 0, .int .i64 0, .string ⟨#[]⟩, .string ⟨#[]⟩, .int .i64 0, .bool false, .int .i64 0] 30)] (by kernel_rfl) ⟨C0, C1, trivial⟩ fun KQ hKQ => ?_
    refine loadQ 0 rfl (by kernel_rfl) (by kernel_rfl) rfl rfl 0 rfl (by kernel_rfl) _ (fun w' hf => run_load_blk hf 59 Tryz.underlying59 rfl (by kernel_rfl)) ?_
    simp only [Act.put, List.getElem_toArray, List.getElem_cons_zero, List.getElem_cons_succ, List.setIfInBounds_toArray, List.set_cons_zero, List.set_cons_succ]
    refine loadQ 2 rfl (by kernel_rfl) (by kernel_rfl) rfl rfl 1 rfl (by kernel_rfl) _ (fun w' hf => run_load_blk hf 30 Tryz.underlying30 rfl (by kernel_rfl)) ?_
    simp only [Act.put, List.getElem_toArray, List.getElem_cons_zero, List.getElem_cons_succ, List.setIfInBounds_toArray, List.set_cons_zero, List.set_cons_succ]
    refine stepQ 1 rfl (by kernel_rfl) (by decide) (by kernel_rfl) fun K hK => ?_
    simp only [List.getElem_toArray, List.getElem_cons_zero, List.getElem_cons_succ]
    go_simp
    refine (CE.out _).mono ?_
    rintro e w3 ⟨rfl, hb3⟩
    replace C4 := C4.drew.trans (hb3.mono C4.drew.size)
    replace C0 := C0.drew.below hb3
    replace C1 := C1.drew.below hb3
    replace C2 := C2.drew.below hb3
    replace C3 := C3.drew.below hb3
    clear hb3
    refine hK _ _ ⟨⟨fun _ => C0, fun _ => C1, trivial⟩, ?_⟩
    clear hK K
    refine stepQ 3 rfl (by kernel_rfl) (by decide) (by kernel_rfl) fun K hK => ?_
    simp only [List.getElem_toArray, List.getElem_cons_zero, List.getElem_cons_succ]
    go_simp
    refine (CD.out _).mono ?_
    rintro e w4 ⟨rfl, hb4⟩
    replace C4 := C4.trans (hb4.mono C4.size)
    replace C0 := C0.below hb4
    replace C1 := C1.below hb4
    replace C2 := C2.below hb4
    replace C3 := C3.below hb4
    clear hb4
    refine hK _ _ ⟨⟨fun _ => C0, fun _ => C1, trivial⟩, ?_⟩
    clear hK K
    refine takeQ 4 rfl (by kernel_rfl) rfl (by kernel_rfl) fun K hK => ?_
    simp only [List.getElem_toArray, List.getElem_cons_zero, List.getElem_cons_succ]
    go_big_quiet_op
    refine hK _ ?_
    clear hK K
    refine takeQ 5 rfl (by kernel_rfl) rfl (by kernel_rfl) fun K hK => ?_
    simp only [List.getElem_toArray, List.getElem_cons_zero, List.getElem_cons_succ]
    go_big_quiet_op
    refine hK _ ?_
    clear hK K
    refine stepQ 6 rfl (by kernel_rfl) (by decide) (by kernel_rfl) fun K hK => ?_
    simp only [List.getElem_toArray, List.getElem_cons_zero, List.getElem_cons_succ]
    refine wp_store_whole 59 59 _ _ rfl 8 (fun w => by kernel_rfl) (w.heap.size + 1) _ #[.string ⟨#[]⟩, .int .i64 0, .int .i64 0, .int .i64 0, .int .i64 0, .slice none 0 0, .slice none 0 0, .slice none 0 0] rfl rfl C2 rfl rfl (by simp [Value.oneCell']) fun w5 h5 g5 => ?_
    have D0 := C0.wrote g5 (by simp)
    have D1 := C1.wrote g5 (by simp; omega)
    have D3 := C3.wrote g5 (by simp)
    have D4 := below_wrote C4 g5 (by simp)
    refine hK _ _ ⟨⟨fun _ => D0, fun _ => D1, trivial⟩, ?_⟩
    clear hK K
    refine stepQ 7 rfl (by kernel_rfl) (by decide) (by kernel_rfl) fun K hK => ?_
    simp only [List.getElem_toArray, List.getElem_cons_zero, List.getElem_cons_succ]
    refine wp_store_whole 34 34 _ _ rfl 2 (fun w => by kernel_rfl) (w.heap.size + 1 + 1) _ #[.slice none 0 0, .slice none 0 0] rfl rfl D3 rfl rfl (by simp [Value.oneCell']) fun w6 h6 g6 => ?_
    have E0 := D0.wrote g6 (by simp; omega)
    have E1 := D1.wrote g6 (by simp; omega)
    have E2 := h5.wrote g6 (by simp)
    have E4 := below_wrote D4 g6 (by simp; omega)
    refine hK _ _ ⟨⟨fun _ => E0, fun _ => E1, trivial⟩, ?_⟩
    clear hK K
    refine doneQ (by kernel_rfl) (hKQ.out _ _ ?_)
    clear hKQ KQ
    go_wp2
    change bodyPost Tryz.prog Tryz.f45 _ _ _ _
    refine bodyPost_ret (v := .tuple #[.agg #[.string ⟨#[]⟩, .int .i64 0, .int .i64 0, .int .i64 0, .int .i64 0, .slice none 0 0, .slice none 0 0, .slice none 0 0], .agg #[.slice none 0 0, .slice none 0 0]]) ?_ rfl ⟨rfl, E4⟩
    have l1 := run_loadVar_blk (P := Tryz.prog) E2 59 Tryz.underlying59 rfl (by kernel_rfl)
    have l2 := run_loadVar_blk (P := Tryz.prog) h6 34 Tryz.underlying34 rfl (by kernel_rfl)
    exact results_cc Tryz.results45 rfl rfl l1 l2
end Go.Proofs.YtodbdojjllabmaaGreatDoor
