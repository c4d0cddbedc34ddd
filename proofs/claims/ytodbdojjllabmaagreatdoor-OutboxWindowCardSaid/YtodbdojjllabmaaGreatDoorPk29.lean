/- The reference's outbox, while it is empty: says, Right, Put. -/
import Derived.Test.YtodbdojjllabmaaGreatDoorPk28
namespace Go.Proofs.YtodbdojjllabmaaGreatDoor
open Go.RowKit Go.Shelf

set_option maxRecDepth 100000 in
set_option maxHeartbeats 800000 in
/-- No row that goes out has no client. -/
theorem r_Right_no (seq : Int) (topic body : List UInt8) (qos : Int) (retain : Bool) (w : World) :
    Calls Tryz.prog 47 #[.agg (RowV.vals ⟨3, [], seq, 0, topic, body, qos, retain, 1⟩)] w fun e w' => e = .returned (.bool false) ∧ Below w.heap.size w w' := by
  unfold RowV.vals
  dsimp only
  have CC : Hid (∀ w, Calls Tryz.prog 75 #[.string ⟨#[]⟩] w fun e w' => e = .returned (.bool false) ∧ w = w') := hid fun w => by
    go_enter Tryz.func75, Tryz.ntmps75
    go_wp2
    go_ret
    simp
  go_enter Tryz.func47, Tryz.ntmps47
  go_wp2_with (go_at_call 75; refine (CC.out _).mono ?_; rintro e w1 ⟨rfl, rfl⟩)
  all_goals (go_ret; refine ⟨rfl, ?_⟩)
  all_goals repeat (first | exact Below.refl _ _ | (refine Below.setCell ?_ (by simp <;> omega) _) | (refine Below.alloc ?_ (by simp <;> omega) _) | refine Below.drew ?_)

set_option maxRecDepth 100000 in
set_option maxHeartbeats 800000 in
theorem r_Put (topic body : List UInt8) (qos : Int) (retain : Bool) (w : World) :
    Calls Tryz.prog 42 #[.agg (refA (.slice none 0 0)), .string ⟨topic.toArray⟩, .string ⟨body.toArray⟩, .int .i64 qos, .bool retain] w fun e w' => e = .returned (.tuple #[.agg (refA (.slice none 0 0)), didA (.slice none 0 0), .int .i64 2]) ∧ Below w.heap.size w w' := by
  have CR := hid (r_Right_no 0 topic body qos retain)
  unfold RowV.vals at CR
  unfold refA didA
  dsimp only at CR
  go_enter Tryz.func42, Tryz.ntmps42
  go_wp2_with fail
  obtain ⟨W, hW⟩ : ∃ W, W = ((((w.alloc (.cells #[.string ⟨#[]⟩, .int .i64 0, .int .i64 0, .int .i64 0, .int .i64 0, .slice none 0 0, .slice none 0 0, .slice none 0 0] 59)).alloc (.cells #[.string ⟨#[]⟩, .int .i64 0, .int .i64 0, .int .i64 0, .int .i64 0, .slice none 0 0, .slice none 0 0, .slice none 0 0] 59)).alloc (.cells #[.slice none 0 0, .slice none 0 0] 34)).alloc (.cells #[.int .i64 3, .string ⟨#[]⟩, .int .i64 0, .int .i64 0, .string ⟨topic.toArray⟩, .string ⟨body.toArray⟩, .int .i64 qos, .bool retain, .int .i64 1] 30)) := ⟨_, rfl⟩
  have B0 : Blk W w.heap.size zA 59 := by rw [hW]; exact (((Blk.new w _ _).alloc _).alloc _).alloc _
  have B2 : Blk W (w.heap.size + 1) zA 59 := by rw [hW]; exact ((Blk.new_at _ _ _ _ (by simp)).alloc _).alloc _
  have B3 : Blk W (w.heap.size + 1 + 1) #[.slice none 0 0, .slice none 0 0] 34 := by rw [hW]; exact (Blk.new_at _ _ _ _ (by simp)).alloc _
  have B4 : Below w.heap.size w W := by
    rw [hW]
    repeat (first | exact Below.refl _ _ | (refine Below.setCell ?_ (by simp <;> omega) _) | (refine Below.alloc ?_ (by simp <;> omega) _) | refine Below.drew ?_)
  rw [← hW]
  clear hW
  refine (CR.out _).mono ?_
  rintro e w1 ⟨rfl, hb1⟩
  replace B4 := B4.trans (hb1.mono B4.size)
  replace B0 := B0.below hb1
  replace B2 := B2.below hb1
  replace B3 := B3.below hb1
  clear hb1 W
  go_wp2_with (first
    | (refine wpList_load_blk rfl 59 _ rfl w.heap.size #[.string ⟨#[]⟩, .int .i64 0, .int .i64 0, .int .i64 0, .int .i64 0, .slice none 0 0, .slice none 0 0, .slice none 0 0] rfl B0 Tryz.underlying59 rfl (by kernel_rfl) ?_)
    | (refine wpList_store_blk rfl 59 59 _ _ rfl 8 (fun w => by kernel_rfl) (w.heap.size + 1) _ #[.string ⟨#[]⟩, .int .i64 0, .int .i64 0, .int .i64 0, .int .i64 0, .slice none 0 0, .slice none 0 0, .slice none 0 0] rfl rfl B2 rfl rfl (by simp [Value.oneCell']) fun w5 h5 g5 => ?_
       have D3 := B3.wrote g5 (by simp)
       have D4 := below_wrote B4 g5 (by simp))
    | (refine wpList_store_blk rfl 34 34 _ _ rfl 2 (fun w => by kernel_rfl) (w.heap.size + 1 + 1) _ #[.slice none 0 0, .slice none 0 0] rfl rfl D3 rfl rfl (by simp [Value.oneCell']) fun w6 h6 g6 => ?_
       have E2 := h5.wrote g6 (by simp)
       have E4 := below_wrote D4 g6 (by simp; omega)))
  change bodyPost Tryz.prog Tryz.f42 _ _ _ _
  refine bodyPost_ret (v := .tuple #[.agg #[.string ⟨#[]⟩, .int .i64 0, .int .i64 0, .int .i64 0, .int .i64 0, .slice none 0 0, .slice none 0 0, .slice none 0 0], .agg #[.slice none 0 0, .slice none 0 0], .int .i64 2]) ?_ rfl ⟨rfl, E4⟩
  have l1 := run_loadVar_blk (P := Tryz.prog) E2 59 Tryz.underlying59 rfl (by kernel_rfl)
  have l2 := run_loadVar_blk (P := Tryz.prog) h6 34 Tryz.underlying34 rfl (by kernel_rfl)
  exact results_cct Tryz.results42 rfl rfl l1 l2 rfl

theorem app_nil_nil (w : World) : (Builtin.append_ #[31, 31] 31 #[.slice none 0 0, .slice none 0 0]).run Tryz.prog w = .ok (.slice none 0 0) w := by kernel_rfl
set_option maxRecDepth 100000 in
set_option maxHeartbeats 800000 in
theorem r_says (p : PackV) (w : World) :
    Calls Tryz.prog 73 #[.agg (refA (.slice none 0 0)), .agg p.cells.toArray] w fun e w' => ∃ a n c, e = .returned (.agg (refA (.slice a n c))) ∧ w'.ownsRow w.heap.size 45 24 (.slice a n c) 1 p.cells ∧ Below w.heap.size w w' := by
  unfold refA
  go_enter Tryz.func73, Tryz.ntmps73
  go_wp2_with fail
  obtain ⟨W, hW⟩ : ∃ W, W = ((w.alloc (.cells #[.string ⟨#[]⟩, .int .i64 0, .int .i64 0, .int .i64 0, .int .i64 0, .slice none 0 0, .slice none 0 0, .slice none 0 0] 59)).alloc (.cells p.cells.toArray 45)).alloc (.cells #[.string ⟨#[]⟩, .int .i64 0, .int .i64 0, .int .i64 0, .int .i64 0, .slice none 0 0, .slice none 0 0, .slice none 0 0] 59) := ⟨_, rfl⟩
  have B0 : Blk W w.heap.size zA 59 := by rw [hW]; exact ((Blk.new w _ _).alloc _).alloc _
  have B1 : Blk W (w.heap.size + 1) p.cells.toArray 45 := by rw [hW]; exact (Blk.new_at _ _ _ _ (by simp)).alloc _
  have B2 : Blk W (w.heap.size + 1 + 1) zA 59 := by rw [hW]; exact Blk.new_at _ _ _ _ (by simp)
  have B4 : Below w.heap.size w W := by
    rw [hW]
    repeat (first | exact Below.refl _ _ | (refine Below.setCell ?_ (by simp <;> omega) _) | (refine Below.alloc ?_ (by simp <;> omega) _) | refine Below.drew ?_)
  rw [← hW]
  clear hW
  have hnil := app_nil_nil
  refine regionQ [(7, fun w' => w'.cell? ⟨w.heap.size, 6, none⟩ = some (.slice none 0 0)), (1000, fun w' => Blk w' (w.heap.size + 1) p.cells.toArray 45)] (by kernel_rfl) ⟨B0.cell 6, B1, trivial⟩ fun KQ hKQ => ?_
  refine takeQ 0 rfl (by kernel_rfl) rfl (by kernel_rfl) fun K hK => ?_
  simp only [List.getElem_toArray, List.getElem_cons_zero, List.getElem_cons_succ]
  go_big_quiet_op
  refine hK _ ?_
  clear hK K
  refine loadQ 1 rfl (by kernel_rfl) (by kernel_rfl) rfl rfl 0 rfl (by kernel_rfl) _ (fun w' hf => by (go_simp <;> with_reducible rfl)) ?_
  simp only [Act.put, List.getElem_toArray, List.getElem_cons_zero, List.getElem_cons_succ, List.setIfInBounds_toArray, List.set_cons_zero, List.set_cons_succ]
  refine loadQ 3 rfl (by kernel_rfl) (by kernel_rfl) rfl rfl 1 rfl (by kernel_rfl) _ (fun w' hf => run_load_blk hf 45 Tryz.underlying45 rfl (by kernel_rfl)) ?_
  simp only [Act.put, List.getElem_toArray, List.getElem_cons_zero, List.getElem_cons_succ, List.setIfInBounds_toArray, List.set_cons_zero, List.set_cons_succ]
  refine appQ 2 rfl (by kernel_rfl) (by kernel_rfl) rfl rfl rfl (.slice none 0 0) app_nil_nil ?_
  simp only [Act.put, List.getElem_toArray, List.getElem_cons_zero, List.getElem_cons_succ, List.setIfInBounds_toArray, List.set_cons_zero, List.set_cons_succ]
  refine stepQ 4 rfl (by kernel_rfl) (by decide) (by kernel_rfl) fun K hK => ?_
  simp only [List.getElem_toArray, List.getElem_cons_zero, List.getElem_cons_succ]
  refine wp_slice_one _ rfl ePack (by decide) (by decide) (.agg p.cells.toArray) rfl rfl ?_
  refine hK _ _ ⟨⟨fun _ => (B0.drew.alloc _).cell 6, fun _ => B1.drew.alloc _, trivial⟩, ?_⟩
  clear hK K
  refine stepQ 5 rfl (by kernel_rfl) (by decide) (by kernel_rfl) fun K hK => ?_
  simp only [List.getElem_toArray, List.getElem_cons_zero, List.getElem_cons_succ]
  refine wp_append_grp _ _ rfl ePack (by decide) w.heap.size (.slice none 0 0) 0 [] rfl (World.ownsRow_nil _ _ _ _) W.drew.heap.size p.cells 45 rfl (Blk.new _ _ _) rfl p.one (by decide) (by decide) (by have := B4.size; simp; omega) fun v' w' r1 g1 n1 => ?_
  simp only [Nat.zero_add, List.nil_append] at r1
  obtain ⟨av, cv, rfl⟩ := own_slice r1
  have hw1 : Wrote [] (W.drew.alloc (.cells (Value.agg p.cells.toArray).cells 45)) w' := Wrote.of_grown g1 (fun k hk => by cases hk)
  have C0 := (B0.drew.alloc (.cells (Value.agg p.cells.toArray).cells 45)).wrote hw1 (by simp)
  have C1 := (B1.drew.alloc (.cells (Value.agg p.cells.toArray).cells 45)).wrote hw1 (by simp)
  have C2 := (B2.drew.alloc (.cells (Value.agg p.cells.toArray).cells 45)).wrote hw1 (by simp)
  have C4 := below_wrote (B4.drew.alloc B4.drew.size (.cells (Value.agg p.cells.toArray).cells 45)) hw1 (by simp)
  refine hK _ _ ⟨⟨fun _ => C0.cell 6, fun _ => C1, trivial⟩, ?_⟩
  clear hK K n1
  simp only [Act.put, List.getElem_toArray, List.getElem_cons_zero, List.getElem_cons_succ, List.setIfInBounds_toArray, List.set_cons_zero, List.set_cons_succ]
  refine takeQ 6 rfl (by kernel_rfl) rfl (by kernel_rfl) fun K hK => ?_
  simp only [List.getElem_toArray, List.getElem_cons_zero, List.getElem_cons_succ]
  go_big_quiet_op
  refine hK _ ?_
  clear hK K
  have q6 : w'.cell? ⟨w.heap.size, 6, none⟩ = some (.slice none 0 0) := C0.cell 6
  have z6 := C0.frozen 6
  have R1 := hid r1
  have C0 := hid C0; have C1 := hid C1; have C2 := hid C2; have C4 := hid C4
  clear r1 g1 hw1
  refine stepQ 7 rfl (by kernel_rfl) (by decide) (by kernel_rfl) fun K hK => ?_
  simp only [List.getElem_toArray, List.getElem_cons_zero, List.getElem_cons_succ]
  go_simp
  have D0 := (C0.out.set 6 (.slice av 1 cv))
  have D1 := C1.out.set_ne ⟨w.heap.size, 6, none⟩ (by simp) (.slice av 1 cv)
  have D2 := C2.out.set_ne ⟨w.heap.size, 6, none⟩ (by simp; omega) (.slice av 1 cv)
  have hst : Wrote [w.heap.size] w' (w'.setCell ⟨w.heap.size, 6, none⟩ (.slice av 1 cv)) := Wrote.setCell w' ⟨w.heap.size, 6, none⟩ (by simp) _
  have D4 := below_wrote C4.out hst (by simp)
  have RO := not_own R1.out hst (fun x hx hb => by simp at hx; subst hx; exact block_not_row C0.out (by decide) R1.out (mem_blk.1 hb).symm)
  obtain ⟨W2, hW2⟩ : ∃ W2, w'.setCell ⟨w.heap.size, 6, none⟩ (.slice av 1 cv) = W2 := ⟨_, rfl⟩
  rw [hW2] at D0 D1 D2 D4 RO ⊢
  clear hW2 hst
  refine hK _ _ ⟨⟨fun h => (by simp at h), fun _ => D1, trivial⟩, ?_⟩
  clear hK K
  refine doneQ (by kernel_rfl) (hKQ.out _ _ ?_)
  clear hKQ KQ
  go_wp2_with (first
    | (refine wpList_load_blk rfl 59 _ rfl w.heap.size #[.string ⟨#[]⟩, .int .i64 0, .int .i64 0, .int .i64 0, .int .i64 0, .slice none 0 0, .slice av 1 cv, .slice none 0 0] rfl D0 Tryz.underlying59 rfl (by kernel_rfl) ?_)
    | (refine wpList_store_blk rfl 59 59 _ _ rfl 8 (fun w => by kernel_rfl) (w.heap.size + 1 + 1) _ #[.string ⟨#[]⟩, .int .i64 0, .int .i64 0, .int .i64 0, .int .i64 0, .slice none 0 0, .slice av 1 cv, .slice none 0 0] rfl rfl D2 rfl rfl (by simp [Value.oneCell']) fun w5 h5 g5 => ?_))
  change bodyPost Tryz.prog Tryz.f73 _ _ _ _
  refine bodyPost_ret (v := .agg #[.string ⟨#[]⟩, .int .i64 0, .int .i64 0, .int .i64 0, .int .i64 0, .slice none 0 0, .slice av 1 cv, .slice none 0 0]) ?_ rfl ⟨av, 1, cv, rfl, ?_, below_wrote D4 g5 (by simp; omega)⟩
  · exact results_cell1 Tryz.results73 rfl (run_loadVar_blk (P := Tryz.prog) h5 59 Tryz.underlying59 rfl (by kernel_rfl))
  · exact not_own RO g5 (fun x hx hb => by simp at hx; subst hx; exact block_not_row D2 (by decide) RO (mem_blk.1 hb).symm)
end Go.Proofs.YtodbdojjllabmaaGreatDoor
