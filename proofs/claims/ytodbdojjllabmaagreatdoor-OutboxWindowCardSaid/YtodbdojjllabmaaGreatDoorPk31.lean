/- Are two packets the same? -/
import Derived.Test.YtodbdojjllabmaaGreatDoorPk30
import Derived.Deep.Cut
namespace Go.Proofs.YtodbdojjllabmaaGreatDoor
open Go.RowKit Go.Shelf

set_option maxRecDepth 100000 in
set_option maxHeartbeats 2000000 in
theorem r_Same_refl (p : PackV) (w : World) :
    Calls Tryz.prog 46 #[.agg p.cells.toArray, .agg p.cells.toArray] w fun e w' => e = .returned (.bool true) ∧ Below w.heap.size w w' := by
  obtain ⟨q, hq⟩ : ∃ q, q = p := ⟨_, rfl⟩
  obtain ⟨W, hW⟩ : ∃ W, W = (w.alloc (.cells p.cells.toArray 45)).alloc (.cells q.cells.toArray 45) := ⟨_, rfl⟩
  have pB : Blk W w.heap.size p.cells.toArray 45 := by rw [hW]; exact (Blk.new w _ _).alloc _
  have qB : Blk W (w.heap.size + 1) q.cells.toArray 45 := by rw [hW]; exact Blk.new_at _ _ _ _ (by simp)
  have B4 : Below w.heap.size w W := by
    rw [hW]
    repeat (first | exact Below.refl _ _ | (refine Below.setCell ?_ (by simp <;> omega) _) | (refine Below.alloc ?_ (by simp <;> omega) _) | refine Below.drew ?_)
  rw [hq] at qB hW
  have p0 : W.cell? ⟨w.heap.size, 0, none⟩ = some (.int .i64 p.kind) := pB.cell 0
  have p1 : W.cell? ⟨w.heap.size, 1, none⟩ = some (.bool p.dup) := pB.cell 1
  have p2 : W.cell? ⟨w.heap.size, 2, none⟩ = some (.bool p.retain) := pB.cell 2
  have p3 : W.cell? ⟨w.heap.size, 3, none⟩ = some (.int .i64 p.qos) := pB.cell 3
  have p4 : W.cell? ⟨w.heap.size, 4, none⟩ = some (.string ⟨p.topic.toArray⟩) := pB.cell 4
  have p5 : W.cell? ⟨w.heap.size, 5, none⟩ = some (.string ⟨p.body.toArray⟩) := pB.cell 5
  have p6 : W.cell? ⟨w.heap.size, 6, none⟩ = some (.int .i64 p.id) := pB.cell 6
  have p7 : W.cell? ⟨w.heap.size, 7, none⟩ = some (.string ⟨#[]⟩) := pB.cell 7
  have p8 : W.cell? ⟨w.heap.size, 8, none⟩ = some (.bool false) := pB.cell 8
  have p9 : W.cell? ⟨w.heap.size, 9, none⟩ = some (.int .i64 0) := pB.cell 9
  have p10 : W.cell? ⟨w.heap.size, 10, none⟩ = some (.bool false) := pB.cell 10
  have p11 : W.cell? ⟨w.heap.size, 11, none⟩ = some (.string ⟨#[]⟩) := pB.cell 11
  have p12 : W.cell? ⟨w.heap.size, 12, none⟩ = some (.string ⟨#[]⟩) := pB.cell 12
  have p13 : W.cell? ⟨w.heap.size, 13, none⟩ = some (.int .i64 0) := pB.cell 13
  have p14 : W.cell? ⟨w.heap.size, 14, none⟩ = some (.bool false) := pB.cell 14
  have p15 : W.cell? ⟨w.heap.size, 15, none⟩ = some (.bool false) := pB.cell 15
  have p16 : W.cell? ⟨w.heap.size, 16, none⟩ = some (.bool false) := pB.cell 16
  have p17 : W.cell? ⟨w.heap.size, 17, none⟩ = some (.string ⟨#[]⟩) := pB.cell 17
  have p18 : W.cell? ⟨w.heap.size, 18, none⟩ = some (.string ⟨#[]⟩) := pB.cell 18
  have p19 : W.cell? ⟨w.heap.size, 19, none⟩ = some (.bool false) := pB.cell 19
  have p20 : W.cell? ⟨w.heap.size, 20, none⟩ = some (.int .i64 0) := pB.cell 20
  have p21 : W.cell? ⟨w.heap.size, 21, none⟩ = some (.slice none 0 0) := pB.cell 21
  have p22 : W.cell? ⟨w.heap.size, 22, none⟩ = some (.slice none 0 0) := pB.cell 22
  have p23 : W.cell? ⟨w.heap.size, 23, none⟩ = some (.slice none 0 0) := pB.cell 23
  have q0 : W.cell? ⟨w.heap.size + 1, 0, none⟩ = some (.int .i64 p.kind) := qB.cell 0
  have q1 : W.cell? ⟨w.heap.size + 1, 1, none⟩ = some (.bool p.dup) := qB.cell 1
  have q2 : W.cell? ⟨w.heap.size + 1, 2, none⟩ = some (.bool p.retain) := qB.cell 2
  have q3 : W.cell? ⟨w.heap.size + 1, 3, none⟩ = some (.int .i64 p.qos) := qB.cell 3
  have q4 : W.cell? ⟨w.heap.size + 1, 4, none⟩ = some (.string ⟨p.topic.toArray⟩) := qB.cell 4
  have q5 : W.cell? ⟨w.heap.size + 1, 5, none⟩ = some (.string ⟨p.body.toArray⟩) := qB.cell 5
  have q6 : W.cell? ⟨w.heap.size + 1, 6, none⟩ = some (.int .i64 p.id) := qB.cell 6
  have q7 : W.cell? ⟨w.heap.size + 1, 7, none⟩ = some (.string ⟨#[]⟩) := qB.cell 7
  have q8 : W.cell? ⟨w.heap.size + 1, 8, none⟩ = some (.bool false) := qB.cell 8
  have q9 : W.cell? ⟨w.heap.size + 1, 9, none⟩ = some (.int .i64 0) := qB.cell 9
  have q10 : W.cell? ⟨w.heap.size + 1, 10, none⟩ = some (.bool false) := qB.cell 10
  have q11 : W.cell? ⟨w.heap.size + 1, 11, none⟩ = some (.string ⟨#[]⟩) := qB.cell 11
  have q12 : W.cell? ⟨w.heap.size + 1, 12, none⟩ = some (.string ⟨#[]⟩) := qB.cell 12
  have q13 : W.cell? ⟨w.heap.size + 1, 13, none⟩ = some (.int .i64 0) := qB.cell 13
  have q14 : W.cell? ⟨w.heap.size + 1, 14, none⟩ = some (.bool false) := qB.cell 14
  have q15 : W.cell? ⟨w.heap.size + 1, 15, none⟩ = some (.bool false) := qB.cell 15
  have q16 : W.cell? ⟨w.heap.size + 1, 16, none⟩ = some (.bool false) := qB.cell 16
  have q17 : W.cell? ⟨w.heap.size + 1, 17, none⟩ = some (.string ⟨#[]⟩) := qB.cell 17
  have q18 : W.cell? ⟨w.heap.size + 1, 18, none⟩ = some (.string ⟨#[]⟩) := qB.cell 18
  have q19 : W.cell? ⟨w.heap.size + 1, 19, none⟩ = some (.bool false) := qB.cell 19
  have q20 : W.cell? ⟨w.heap.size + 1, 20, none⟩ = some (.int .i64 0) := qB.cell 20
  have q21 : W.cell? ⟨w.heap.size + 1, 21, none⟩ = some (.slice none 0 0) := qB.cell 21
  have q22 : W.cell? ⟨w.heap.size + 1, 22, none⟩ = some (.slice none 0 0) := qB.cell 22
  have q23 : W.cell? ⟨w.heap.size + 1, 23, none⟩ = some (.slice none 0 0) := qB.cell 23
  clear pB qB hq
  go_enter Tryz.func46, Tryz.ntmps46
  go_upto_region 1 with (fail)
  rw [← hW]
  clear hW
  go_wp2
  go_loopw [5] (fun i wr => i = .int .i64 0 ∧ W = wr) (fun _ _ => 0)
  case atStart => exact ⟨rfl, rfl⟩
  case round =>
    obtain ⟨rfl, rfl⟩ := hrel
    go_wp2
    go_loopw [6] (fun i wr => i = .int .i64 0 ∧ W = wr) (fun _ _ => 0)
    case atStart => exact ⟨rfl, rfl⟩
    case round =>
      obtain ⟨rfl, rfl⟩ := hrel
      go_wp2
      go_loopw [7] (fun i wr => i = .int .i64 0 ∧ W = wr) (fun _ _ => 0)
      case atStart => exact ⟨rfl, rfl⟩
      case round =>
        obtain ⟨rfl, rfl⟩ := hrel
        go_wp2
        go_ret
        exact ⟨rfl, B4⟩
set_option maxRecDepth 100000 in
set_option maxHeartbeats 2000000 in
theorem r_Same_any (p q : PackV) (w : World) :
    Calls Tryz.prog 46 #[.agg p.cells.toArray, .agg q.cells.toArray] w fun e w' => (∃ b, e = .returned (.bool b)) ∧ Below w.heap.size w w' := by
  obtain ⟨W, hW⟩ : ∃ W, W = (w.alloc (.cells p.cells.toArray 45)).alloc (.cells q.cells.toArray 45) := ⟨_, rfl⟩
  have pB : Blk W w.heap.size p.cells.toArray 45 := by rw [hW]; exact (Blk.new w _ _).alloc _
  have qB : Blk W (w.heap.size + 1) q.cells.toArray 45 := by rw [hW]; exact Blk.new_at _ _ _ _ (by simp)
  have B4 : Below w.heap.size w W := by
    rw [hW]
    repeat (first | exact Below.refl _ _ | (refine Below.setCell ?_ (by simp <;> omega) _) | (refine Below.alloc ?_ (by simp <;> omega) _) | refine Below.drew ?_)
  have p0 : W.cell? ⟨w.heap.size, 0, none⟩ = some (.int .i64 p.kind) := pB.cell 0
  have p1 : W.cell? ⟨w.heap.size, 1, none⟩ = some (.bool p.dup) := pB.cell 1
  have p2 : W.cell? ⟨w.heap.size, 2, none⟩ = some (.bool p.retain) := pB.cell 2
  have p3 : W.cell? ⟨w.heap.size, 3, none⟩ = some (.int .i64 p.qos) := pB.cell 3
  have p4 : W.cell? ⟨w.heap.size, 4, none⟩ = some (.string ⟨p.topic.toArray⟩) := pB.cell 4
  have p5 : W.cell? ⟨w.heap.size, 5, none⟩ = some (.string ⟨p.body.toArray⟩) := pB.cell 5
  have p6 : W.cell? ⟨w.heap.size, 6, none⟩ = some (.int .i64 p.id) := pB.cell 6
  have p7 : W.cell? ⟨w.heap.size, 7, none⟩ = some (.string ⟨#[]⟩) := pB.cell 7
  have p8 : W.cell? ⟨w.heap.size, 8, none⟩ = some (.bool false) := pB.cell 8
  have p9 : W.cell? ⟨w.heap.size, 9, none⟩ = some (.int .i64 0) := pB.cell 9
  have p10 : W.cell? ⟨w.heap.size, 10, none⟩ = some (.bool false) := pB.cell 10
  have p11 : W.cell? ⟨w.heap.size, 11, none⟩ = some (.string ⟨#[]⟩) := pB.cell 11
  have p12 : W.cell? ⟨w.heap.size, 12, none⟩ = some (.string ⟨#[]⟩) := pB.cell 12
  have p13 : W.cell? ⟨w.heap.size, 13, none⟩ = some (.int .i64 0) := pB.cell 13
  have p14 : W.cell? ⟨w.heap.size, 14, none⟩ = some (.bool false) := pB.cell 14
  have p15 : W.cell? ⟨w.heap.size, 15, none⟩ = some (.bool false) := pB.cell 15
  have p16 : W.cell? ⟨w.heap.size, 16, none⟩ = some (.bool false) := pB.cell 16
  have p17 : W.cell? ⟨w.heap.size, 17, none⟩ = some (.string ⟨#[]⟩) := pB.cell 17
  have p18 : W.cell? ⟨w.heap.size, 18, none⟩ = some (.string ⟨#[]⟩) := pB.cell 18
  have p19 : W.cell? ⟨w.heap.size, 19, none⟩ = some (.bool false) := pB.cell 19
  have p20 : W.cell? ⟨w.heap.size, 20, none⟩ = some (.int .i64 0) := pB.cell 20
  have p21 : W.cell? ⟨w.heap.size, 21, none⟩ = some (.slice none 0 0) := pB.cell 21
  have p22 : W.cell? ⟨w.heap.size, 22, none⟩ = some (.slice none 0 0) := pB.cell 22
  have p23 : W.cell? ⟨w.heap.size, 23, none⟩ = some (.slice none 0 0) := pB.cell 23
  have q0 : W.cell? ⟨w.heap.size + 1, 0, none⟩ = some (.int .i64 q.kind) := qB.cell 0
  have q1 : W.cell? ⟨w.heap.size + 1, 1, none⟩ = some (.bool q.dup) := qB.cell 1
  have q2 : W.cell? ⟨w.heap.size + 1, 2, none⟩ = some (.bool q.retain) := qB.cell 2
  have q3 : W.cell? ⟨w.heap.size + 1, 3, none⟩ = some (.int .i64 q.qos) := qB.cell 3
  have q4 : W.cell? ⟨w.heap.size + 1, 4, none⟩ = some (.string ⟨q.topic.toArray⟩) := qB.cell 4
  have q5 : W.cell? ⟨w.heap.size + 1, 5, none⟩ = some (.string ⟨q.body.toArray⟩) := qB.cell 5
  have q6 : W.cell? ⟨w.heap.size + 1, 6, none⟩ = some (.int .i64 q.id) := qB.cell 6
  have q7 : W.cell? ⟨w.heap.size + 1, 7, none⟩ = some (.string ⟨#[]⟩) := qB.cell 7
  have q8 : W.cell? ⟨w.heap.size + 1, 8, none⟩ = some (.bool false) := qB.cell 8
  have q9 : W.cell? ⟨w.heap.size + 1, 9, none⟩ = some (.int .i64 0) := qB.cell 9
  have q10 : W.cell? ⟨w.heap.size + 1, 10, none⟩ = some (.bool false) := qB.cell 10
  have q11 : W.cell? ⟨w.heap.size + 1, 11, none⟩ = some (.string ⟨#[]⟩) := qB.cell 11
  have q12 : W.cell? ⟨w.heap.size + 1, 12, none⟩ = some (.string ⟨#[]⟩) := qB.cell 12
  have q13 : W.cell? ⟨w.heap.size + 1, 13, none⟩ = some (.int .i64 0) := qB.cell 13
  have q14 : W.cell? ⟨w.heap.size + 1, 14, none⟩ = some (.bool false) := qB.cell 14
  have q15 : W.cell? ⟨w.heap.size + 1, 15, none⟩ = some (.bool false) := qB.cell 15
  have q16 : W.cell? ⟨w.heap.size + 1, 16, none⟩ = some (.bool false) := qB.cell 16
  have q17 : W.cell? ⟨w.heap.size + 1, 17, none⟩ = some (.string ⟨#[]⟩) := qB.cell 17
  have q18 : W.cell? ⟨w.heap.size + 1, 18, none⟩ = some (.string ⟨#[]⟩) := qB.cell 18
  have q19 : W.cell? ⟨w.heap.size + 1, 19, none⟩ = some (.bool false) := qB.cell 19
  have q20 : W.cell? ⟨w.heap.size + 1, 20, none⟩ = some (.int .i64 0) := qB.cell 20
  have q21 : W.cell? ⟨w.heap.size + 1, 21, none⟩ = some (.slice none 0 0) := qB.cell 21
  have q22 : W.cell? ⟨w.heap.size + 1, 22, none⟩ = some (.slice none 0 0) := qB.cell 22
  have q23 : W.cell? ⟨w.heap.size + 1, 23, none⟩ = some (.slice none 0 0) := qB.cell 23
  clear pB qB
  go_enter Tryz.func46, Tryz.ntmps46
  go_upto_region 1 with (fail)
  rw [← hW]
  clear hW
  go_wp2
  go_loopw [5] (fun i wr => i = .int .i64 0 ∧ W = wr) (fun _ _ => 0)
  case atStart => exact ⟨rfl, rfl⟩
  case round =>
    obtain ⟨rfl, rfl⟩ := hrel
    go_wp2
    go_loopw [6] (fun i wr => i = .int .i64 0 ∧ W = wr) (fun _ _ => 0)
    case atStart => exact ⟨rfl, rfl⟩
    case round =>
      obtain ⟨rfl, rfl⟩ := hrel
      go_wp2
      go_loopw [7] (fun i wr => i = .int .i64 0 ∧ W = wr) (fun _ _ => 0)
      case atStart => exact ⟨rfl, rfl⟩
      case round =>
        obtain ⟨rfl, rfl⟩ := hrel
        go_wp2
        all_goals (go_ret; exact ⟨⟨_, rfl⟩, B4⟩)
end Go.Proofs.YtodbdojjllabmaaGreatDoor
