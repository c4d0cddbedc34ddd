/- Parts of the proof of SessionRows: contracts of functions that it reaches, and plain lemmas. No condition of their own. -/
import Derived.Test.YtoinabapaeebfaaGreatDoorPk17
import Derived.Deep.Cut
set_option linter.unusedSimpArgs false
set_option linter.unusedVariables false
set_option maxRecDepth 100000
set_option maxHeartbeats 8000000
namespace Go.Proofs.YtoinabapaeebfaaGreatDoor
open Go.RowKit Go.Shelf
section
theorem r_Right_no (seq : Int) (topic body : List UInt8) (qos : Int) (retain : Bool) (w : World) :
  Calls Tryz.prog 50 #[.agg (RowV.vals ⟨3, [], seq, 0, topic, body, qos, retain, 1⟩)] w fun e w' => e = .returned (.bool false) /\ Below w.heap.size w w' := by
 unfold RowV.vals
 dsimp only
 have CC : Hid (∀ w, Calls Tryz.prog 104 #[.string ⟨#[]⟩] w fun e w' => e = .returned (.bool false) /\ w = w') := hid fun w => by
  go_enter Tryz.func104, Tryz.ntmps104
  go_wp2
  go_ret
  simp
 go_enter Tryz.func50, Tryz.ntmps50
 go_wp2_with (go_at_call 104; refine (CC.out _).mono ?_; rintro e w1 ⟨rfl, rfl⟩)
 all_goals (go_ret; refine ⟨rfl, ?_⟩)
 all_goals repeat (first | exact Below.refl _ _ | (refine Below.setCell ?_ (by simp <;> omega) _) | (refine Below.alloc ?_ (by simp <;> omega) _) | refine Below.drew ?_)
theorem r_Put (topic body : List UInt8) (qos : Int) (retain : Bool) (w : World) :
  Calls Tryz.prog 45 #[.agg (refA (.slice none 0 0)), .string ⟨topic.toArray⟩, .string ⟨body.toArray⟩, .int .i64 qos, .bool retain] w fun e w' => e = .returned (.tuple #[.agg (refA (.slice none 0 0)), didA (.slice none 0 0), .int .i64 2]) /\ Below w.heap.size w w' := by
 have CR := hid (r_Right_no 0 topic body qos retain)
 unfold RowV.vals at CR
 unfold refA didA
 dsimp only at CR
 go_enter Tryz.func45, Tryz.ntmps45
 go_wp2_with fail
 obtain ⟨W, hW⟩ : ∃ W, W = ((((w.alloc (.cells #[.string ⟨#[]⟩, .int .i64 0, .int .i64 0, .int .i64 0, .int .i64 0, .slice none 0 0, .slice none 0 0, .slice none 0 0] 38)).alloc (.cells #[.string ⟨#[]⟩, .int .i64 0, .int .i64 0, .int .i64 0, .int .i64 0, .slice none 0 0, .slice none 0 0, .slice none 0 0] 38)).alloc (.cells #[.slice none 0 0, .slice none 0 0] 53)).alloc (.cells #[.int .i64 3, .string ⟨#[]⟩, .int .i64 0, .int .i64 0, .string ⟨topic.toArray⟩, .string ⟨body.toArray⟩, .int .i64 qos, .bool retain, .int .i64 1] 33)) := ⟨_, rfl⟩
 have B0 : Blk W w.heap.size zA 38 := by rw [hW]; exact (((Blk.new w _ _).alloc _).alloc _).alloc _
 have B2 : Blk W (w.heap.size + 1) zA 38 := by rw [hW]; exact ((Blk.new_at _ _ _ _ (by simp)).alloc _).alloc _
 have B3 : Blk W (w.heap.size + 1 + 1) #[.slice none 0 0, .slice none 0 0] 53 := by rw [hW]; exact (Blk.new_at _ _ _ _ (by simp)).alloc _
 have B4 : Below w.heap.size w W := by
  rw [hW]
  exact belw
 rw [<- hW]
 clear hW;refine (CR.out _).mono ?_
 rintro e w1 ⟨rfl, hb1⟩
 replace B4 := B4.trans (hb1.mono B4.size)
 replace B0 := B0.below hb1
 replace B2 := B2.below hb1
 replace B3 := B3.below hb1
 clear hb1 W
 go_wp2_with (first
  | (refine wL 38 rfl rfl B0 Tryz.underlying38 ?_)
  | (refine wS 38 8 rfl (w.heap.size + 1) _ #[.string ⟨#[]⟩, .int .i64 0, .int .i64 0, .int .i64 0, .int .i64 0, .slice none 0 0, .slice none 0 0, .slice none 0 0] rfl rfl B2 rfl rfl (by simp [Value.oneCell']) fun w5 h5 g5 => ?_
     have D3 := B3.wrote g5 (by simp)
     have D4 := below_wrote B4 g5 (by simp))
  | (refine wS 53 2 rfl (w.heap.size + 1 + 1) _ #[.slice none 0 0, .slice none 0 0] rfl rfl D3 rfl rfl (by simp [Value.oneCell']) fun w6 h6 g6 => ?_
     have E2 := h5.wrote g6 (by simp)
     have E4 := below_wrote D4 g6 (by simp; omega)))
 change bodyPost Tryz.prog Tryz.f45 _ _ _ _
 refine bodyPost_ret (v := .tuple #[.agg #[.string ⟨#[]⟩, .int .i64 0, .int .i64 0, .int .i64 0, .int .i64 0, .slice none 0 0, .slice none 0 0, .slice none 0 0], .agg #[.slice none 0 0, .slice none 0 0], .int .i64 2]) ?_ rfl ⟨rfl, E4⟩
 have l1 := run_loadVar_blk (P := Tryz.prog) E2 38 Tryz.underlying38 rfl (by kernel_rfl)
 have l2 := run_loadVar_blk (P := Tryz.prog) h6 53 Tryz.underlying53 rfl (by kernel_rfl)
 exact results_cct Tryz.results45 rfl rfl l1 l2 rfl
theorem app_nil_nil (w : World) : (Builtin.append_ #[35, 35] 35 #[.slice none 0 0, .slice none 0 0]).run Tryz.prog w = .ok (.slice none 0 0) w := by kernel_rfl
theorem r_says (p : PackV) (w : World) :
  Calls Tryz.prog 100 #[.agg (refA (.slice none 0 0)), .agg p.cells.toArray] w fun e w' => ∃ a n c, e = .returned (.agg (refA (.slice a n c))) /\ w'.ownsRow w.heap.size 81 24 (.slice a n c) 1 p.cells /\ Below w.heap.size w w' := by
 unfold refA
 go_enter Tryz.func100, Tryz.ntmps100
 go_wp2_with fail
 obtain ⟨W, hW⟩ : ∃ W, W = ((w.alloc (.cells #[.string ⟨#[]⟩, .int .i64 0, .int .i64 0, .int .i64 0, .int .i64 0, .slice none 0 0, .slice none 0 0, .slice none 0 0] 38)).alloc (.cells p.cells.toArray 81)).alloc (.cells #[.string ⟨#[]⟩, .int .i64 0, .int .i64 0, .int .i64 0, .int .i64 0, .slice none 0 0, .slice none 0 0, .slice none 0 0] 38) := ⟨_, rfl⟩
 have B0 : Blk W w.heap.size zA 38 := by rw [hW]; exact ((Blk.new w _ _).alloc _).alloc _
 have B1 : Blk W (w.heap.size + 1) p.cells.toArray 81 := by rw [hW]; exact (Blk.new_at _ _ _ _ (by simp)).alloc _
 have B2 : Blk W (w.heap.size + 1 + 1) zA 38 := by rw [hW]; exact Blk.new_at _ _ _ _ (by simp)
 have B4 : Below w.heap.size w W := by
  rw [hW]
  exact belw
 rw [<- hW]
 clear hW;have hnil := app_nil_nil
 refine regionQ [(7, fun w' => w'.cell? ⟨w.heap.size, 6, none⟩ = some (.slice none 0 0)), (1000, fun w' => Blk w' (w.heap.size + 1) p.cells.toArray 81)] (by kernel_rfl) ⟨B0.cell 6, B1, trivial⟩ fun KQ hKQ => ?_
 refine tQ [0] ?_;refine lQ 1 0 ?_;refine lR 3 1 rfl rfl rfl rfl (fun w' hf => run_load_blk hf 81 Tryz.underlying81 rfl (by kernel_rfl)) ?_
 simp only [PT];refine appQ 2 rfl (by kernel_rfl) (by kernel_rfl) rfl rfl rfl (.slice none 0 0) app_nil_nil ?_
 simp only [Act.put, List.getElem_toArray, List.getElem_cons_zero, List.getElem_cons_succ, List.setIfInBounds_toArray, List.set_cons_zero, List.set_cons_succ]
 refine sQ 4 fun K hK => ?_;simp only [GO];refine wp_slice_one _ rfl ePack (by decide) (by decide) (.agg p.cells.toArray) rfl rfl ?_
 refine hK _ _ ⟨⟨fun _ => (B0.drew.alloc _).cell 6, fun _ => B1.drew.alloc _, trivial⟩, ?_⟩
 clear hK K;refine sQ 5 fun K hK => ?_;simp only [GO];refine wp_append_grp _ _ rfl ePack (by decide) w.heap.size (.slice none 0 0) 0 [] rfl (World.ownsRow_nil _ _ _ _) W.drew.heap.size p.cells 81 rfl (Blk.new _ _ _) rfl p.one (by decide) (by decide) (by have := B4.size; simp; omega) fun v' w' r1 g1 n1 => ?_
 simp only [Nat.zero_add, List.nil_append] at r1
 obtain ⟨av, cv, rfl⟩ := own_slice r1
 have hw1 : Wrote [] (W.drew.alloc (.cells (Value.agg p.cells.toArray).cells 81)) w' := Wrote.of_grown g1 (fun k hk => by cases hk)
 have C0 := (B0.drew.alloc (.cells (Value.agg p.cells.toArray).cells 81)).wrote hw1 (by simp)
 have C1 := (B1.drew.alloc (.cells (Value.agg p.cells.toArray).cells 81)).wrote hw1 (by simp)
 have C2 := (B2.drew.alloc (.cells (Value.agg p.cells.toArray).cells 81)).wrote hw1 (by simp)
 have C4 := below_wrote (B4.drew.alloc B4.drew.size (.cells (Value.agg p.cells.toArray).cells 81)) hw1 (by simp)
 refine hK _ _ ⟨⟨fun _ => C0.cell 6, fun _ => C1, trivial⟩, ?_⟩
 clear hK K n1;simp only [Act.put, List.getElem_toArray, List.getElem_cons_zero, List.getElem_cons_succ, List.setIfInBounds_toArray, List.set_cons_zero, List.set_cons_succ]
 refine tQ [6] ?_;have q6 : w'.cell? ⟨w.heap.size, 6, none⟩ = some (.slice none 0 0) := C0.cell 6
 have z6 := C0.frozen 6
 have R1 := hid r1;have C0 := hid C0; have C1 := hid C1; have C2 := hid C2; have C4 := hid C4
 clear r1 g1 hw1;refine sQ 7 fun K hK => ?_;simp only [GO];go_simp;have D0 := (C0.out.set 6 (.slice av 1 cv))
 have D1 := C1.out.set_ne ⟨w.heap.size, 6, none⟩ (by simp) (.slice av 1 cv)
 have D2 := C2.out.set_ne ⟨w.heap.size, 6, none⟩ (by simp; omega) (.slice av 1 cv)
 have hst : Wrote [w.heap.size] w' (w'.setCell ⟨w.heap.size, 6, none⟩ (.slice av 1 cv)) := Wrote.setCell w' ⟨w.heap.size, 6, none⟩ (by simp) _
 have D4 := below_wrote C4.out hst (by simp)
 have RO := not_own R1.out hst (fun x hx hb => by simp at hx; subst hx; exact block_not_row C0.out (by decide) R1.out (mem_blk.1 hb).symm)
 obtain ⟨W2, hW2⟩ : ∃ W2, w'.setCell ⟨w.heap.size, 6, none⟩ (.slice av 1 cv) = W2 := ⟨_, rfl⟩
 rw [hW2] at D0 D1 D2 D4 RO ⊢
 clear hW2 hst;refine hK _ _ ⟨⟨fun h => (by simp at h), fun _ => D1, trivial⟩, ?_⟩
 clear hK K;refine dQ (hKQ.out _ _ ?_);clear hKQ KQ
 go_wp2_with (first
  | (refine wL 38 rfl rfl D0 Tryz.underlying38 ?_)
  | (refine wS 38 8 rfl (w.heap.size + 1 + 1) _ #[.string ⟨#[]⟩, .int .i64 0, .int .i64 0, .int .i64 0, .int .i64 0, .slice none 0 0, .slice av 1 cv, .slice none 0 0] rfl rfl D2 rfl rfl (by simp [Value.oneCell']) fun w5 h5 g5 => ?_))
 change bodyPost Tryz.prog Tryz.f100 _ _ _ _
 refine bodyPost_ret (v := .agg #[.string ⟨#[]⟩, .int .i64 0, .int .i64 0, .int .i64 0, .int .i64 0, .slice none 0 0, .slice av 1 cv, .slice none 0 0]) ?_ rfl ⟨av, 1, cv, rfl, ?_, below_wrote D4 g5 (by simp; omega)⟩
 ·exact results_cell1 Tryz.results100 rfl (run_loadVar_blk (P := Tryz.prog) h5 38 Tryz.underlying38 rfl (by kernel_rfl))
 ·exact not_own RO g5 (fun x hx hb => by simp at hx; subst hx; exact block_not_row D2 (by decide) RO (mem_blk.1 hb).symm)
end
section
theorem bk_RefX_hbad1 {P : Prop} (h : P := by
 go_enter Tryz.func47, Tryz.ntmps47
 go_wp2_with (first
  | (refine wL 38 rfl rfl B0.out Tryz.underlying38 ?_)
  | (refine wS 38 8 rfl (w.heap.size + 1) _ #[.string ⟨#[]⟩, .int .i64 0, .int .i64 0, .int .i64 0, .int .i64 0, .slice none 0 0, .slice none 0 0, .slice none 0 0] rfl rfl B2.out rfl rfl (by simp [Value.oneCell']) fun w5 h5 g5 => ?_
     have D3 := B3.out.wrote g5 (by simp)
     have D4 := below_wrote B4.out g5 (by simp))
  | (refine wS 53 2 rfl (w.heap.size + 1 + 1) _ #[.slice none 0 0, .slice none 0 0] rfl rfl D3 rfl rfl (by simp [Value.oneCell']) fun w6 h6 g6 => ?_
     have E2 := h5.wrote g6 (by simp)
     have E4 := below_wrote D4 g6 (by simp; omega)))
 change bodyPost Tryz.prog Tryz.f47 _ _ _ _
 refine bodyPost_ret (v := .tuple #[.agg #[.string ⟨#[]⟩, .int .i64 0, .int .i64 0, .int .i64 0, .int .i64 0, .slice none 0 0, .slice none 0 0, .slice none 0 0], .agg #[.slice none 0 0, .slice none 0 0], .int .i64 2]) ?_ rfl ⟨rfl, E4⟩
 have l1 := run_loadVar_blk (P := Tryz.prog) E2 38 Tryz.underlying38 rfl (by kernel_rfl)
 have l2 := run_loadVar_blk (P := Tryz.prog) h6 53 Tryz.underlying53 rfl (by kernel_rfl)
 exact results_cct Tryz.results47 rfl rfl l1 l2 rfl) : P := h
theorem bk_RefX_hstores2 {P : Prop} (h : P := by
 refine sQ 8 fun K hK => ?_;simp only [GO];refine wW 38 8 rfl w.heap.size _ #[.string ⟨#[]⟩, .int .i64 0, .int .i64 0, .int .i64 0, .int .i64 0, .slice none 0 0, .slice none 0 0, .slice none 0 0] rfl rfl C0 rfl rfl (by simp [Value.oneCell']) fun w6 h6 g6 => ?_
 have D1 := C1.wrote g6 (by simp; omega)
 have D2 := C2.wrote g6 (by simp)
 have D3 := C3.wrote g6 (by simp; omega)
 have D5 := C5.wrote g6 (by simp; omega)
 have D4 := below_wrote C4 g6 (by simp)
 replace RO := not_own RO g6 (fun x hx hb => by simp at hx; subst hx; exact block_not_row C0 (by decide) RO (mem_blk.1 hb).symm)
 refine hK _ _ ⟨⟨fun h => (by simp at h), fun _ => D1, trivial⟩, ?_⟩
 clear hK K;refine sQ 9 fun K hK => ?_;simp only [GO];refine wW 53 2 rfl _ _ _ rfl rfl D5 rfl rfl (by simp [Value.oneCell']) fun w7 h7 g7 => ?_
 have E0 := h6.wrote g7 (by simp; omega)
 have E1 := D1.wrote g7 (by simp; omega)
 have E2 := D2.wrote g7 (by simp; omega)
 have E3 := D3.wrote g7 (by simp; omega)
 have E4 := below_wrote D4 g7 (by simp; omega)
 replace RO := not_own RO g7 (fun x hx hb => by simp at hx; subst hx; exact block_not_row D5 (by decide) RO (mem_blk.1 hb).symm)
 refine hK _ _ ⟨⟨fun h => (by simp at h), fun _ => E1, trivial⟩, ?_⟩
 clear hK K;refine dQ (hKQ.out _ _ ?_);clear hKQ KQ;clear C0 C1 C2 C3 C4 C5 D1 D2 D3 D4 D5 g6 g7 h6;go_wp2_with fail
 refine regionB2 1000 1000 (by kernel_rfl) E0 h7 fun KQ hKQ => ?_
 refine lR 0 0 rfl rfl rfl rfl (fun w' hf => run_load_blk hf 38 Tryz.underlying38 rfl (by kernel_rfl)) ?_
 simp only [PT];refine lR 1 1 rfl rfl rfl rfl (fun w' hf => run_load_blk hf 53 Tryz.underlying53 rfl (by kernel_rfl)) ?_
 simp only [PT];refine sQ 2 fun K hK => ?_;simp only [GO];refine wW 38 8 rfl (w.heap.size + 1) _ #[.string ⟨#[]⟩, .int .i64 0, .int .i64 0, .int .i64 0, .int .i64 0, .slice none 0 0, .slice none 0 0, .slice none 0 0] rfl rfl E2.drew rfl rfl (by simp [Value.oneCell']) fun w8 h8 g8 => ?_
 have F0 := E0.drew.wrote g8 (by simp)
 have F5 := h7.drew.wrote g8 (by simp; omega)
 have F3 := E3.drew.wrote g8 (by simp)
 have F4 := below_wrote E4.drew g8 (by simp)
 replace RO := not_own RO.drew g8 (fun x hx hb => by simp at hx; subst hx; exact block_not_row E2 (by decide) RO (mem_blk.1 hb).symm)
 refine hK _ _ ⟨⟨fun _ => F0, fun _ => F5, trivial⟩, ?_⟩
 clear hK K;refine sQ 3 fun K hK => ?_;simp only [GO];refine wW 53 2 rfl (w.heap.size + 1 + 1) _ _ rfl rfl F3 rfl rfl (by simp [Value.oneCell']) fun w9 h9 g9 => ?_
 have G0 := F0.wrote g9 (by simp; omega)
 have G5 := F5.wrote g9 (by simp; omega)
 have G2 := h8.wrote g9 (by simp)
 have G4 := below_wrote F4 g9 (by simp; omega)
 replace RO := not_own RO g9 (fun x hx hb => by simp at hx; subst hx; exact block_not_row F3 (by decide) RO (mem_blk.1 hb).symm)
 refine hK _ _ ⟨⟨fun _ => G0, fun _ => G5, trivial⟩, ?_⟩
 clear hK K;try simp only [PT]
 refine tQ [4] ?_;refine dQ (hKQ.out _ _ ?_);clear hKQ KQ;go_wp2
 change bodyPost Tryz.prog Tryz.f47 _ _ _ _
 have l1 := run_loadVar_blk (P := Tryz.prog) G2 38 Tryz.underlying38 rfl (by kernel_rfl)
 have l2 := run_loadVar_blk (P := Tryz.prog) h9 53 Tryz.underlying53 rfl (by kernel_rfl)
 refine bodyPost_ret (results_cct Tryz.results47 rfl rfl l1 l2 rfl) rfl ?_
 first | exact ⟨rfl, G4⟩ | exact ⟨a, n, c, rfl, RO, G4⟩) : P := h
theorem bk_RefX_htail3 {P : Prop} (h : P := by
 refine regionB2 8 1000 (by kernel_rfl) C0 C1 fun KQ hKQ => ?_
 refine lR 0 0 rfl rfl rfl rfl (fun w' hf => run_load_blk hf 38 Tryz.underlying38 rfl (by kernel_rfl)) ?_
 simp only [PT];refine lR 2 1 rfl rfl rfl rfl (fun w' hf => run_load_blk hf 33 Tryz.underlying33 rfl (by kernel_rfl)) ?_
 simp only [PT];refine stepQ2 1 7 rfl rfl (by kernel_rfl) (by decide) (by kernel_rfl) (by kernel_rfl) (fun K hK => ?_) (fun K hK => ?_)
 ·go_simp
  refine (CE.out _).mono ?_
  rintro e w4 ⟨rfl, hb9⟩
  replace C4 := C4.drew.trans (hb9.mono C4.drew.size)
  replace C0 := C0.drew.below hb9
  replace C1 := C1.drew.below hb9
  replace C2 := C2.drew.below hb9
  replace C3 := C3.drew.below hb9
  replace RO := ownsRow_below RO.drew hb9
  refine hK _ _ ⟨⟨fun _ => C0, fun _ => C1, trivial⟩, ?_⟩
  clear hK K;refine stepQ2 3 7 rfl rfl (by kernel_rfl) (by decide) (by kernel_rfl) (by kernel_rfl) (fun K hK => ?_) (fun K hK => ?_)
  ·go_simp
   refine (CD.out _).mono ?_
   rintro e w5 ⟨rfl, hb9⟩
   replace C4 := C4.trans (hb9.mono C4.size)
   replace C0 := C0.below hb9
   replace C1 := C1.below hb9
   replace C2 := C2.below hb9
   replace C3 := C3.below hb9
   replace RO := ownsRow_below RO hb9
   refine hK _ _ ⟨⟨fun _ => C0, fun _ => C1, trivial⟩, ?_⟩
   clear hK K;refine tQ [4, 5, 6] ?_;refine sQ 7 fun K hK => ?_;simp only [GO];go_simp;have C5 := Blk.new_at w5 #[.slice none 0 0, .slice none 0 0] 53 w5.heap.size rfl
   have n0 : w.heap.size < w5.heap.size := C0.lt
   have n1 : W.heap.size < w5.heap.size := C1.lt
   have n2 : w.heap.size + 1 < w5.heap.size := C2.lt
   have n3 : w.heap.size + 1 + 1 < w5.heap.size := C3.lt
   replace C4 := C4.alloc C4.size (.cells #[.slice none 0 0, .slice none 0 0] 53)
   replace C0 := C0.alloc (.cells #[.slice none 0 0, .slice none 0 0] 53)
   replace C1 := C1.alloc (.cells #[.slice none 0 0, .slice none 0 0] 53)
   replace C2 := C2.alloc (.cells #[.slice none 0 0, .slice none 0 0] 53)
   replace RO := RO.alloc (.cells #[.slice none 0 0, .slice none 0 0] 53)
   replace C3 := C3.alloc (.cells #[.slice none 0 0, .slice none 0 0] 53)
   refine hK _ _ ⟨⟨fun _ => C0, fun _ => C1, trivial⟩, ?_⟩
   clear hK K;exact bk_RefX_hstores2
  ·go_simp
   have C5 := Blk.new_at w4 #[.slice none 0 0, .slice none 0 0] 53 w4.heap.size rfl
   have n0 : w.heap.size < w4.heap.size := C0.lt
   have n1 : W.heap.size < w4.heap.size := C1.lt
   have n2 : w.heap.size + 1 < w4.heap.size := C2.lt
   have n3 : w.heap.size + 1 + 1 < w4.heap.size := C3.lt
   replace C4 := C4.alloc C4.size (.cells #[.slice none 0 0, .slice none 0 0] 53)
   replace C0 := C0.alloc (.cells #[.slice none 0 0, .slice none 0 0] 53)
   replace C1 := C1.alloc (.cells #[.slice none 0 0, .slice none 0 0] 53)
   replace C2 := C2.alloc (.cells #[.slice none 0 0, .slice none 0 0] 53)
   replace RO := RO.alloc (.cells #[.slice none 0 0, .slice none 0 0] 53)
   replace C3 := C3.alloc (.cells #[.slice none 0 0, .slice none 0 0] 53)
   refine hK _ _ ⟨⟨fun _ => C0, fun _ => C1, trivial⟩, ?_⟩
   clear hK K;refine sQ 3 fun K hK => ?_;simp only [GO];go_simp;refine (CD.out _).mono ?_
   rintro e w5 ⟨rfl, hb9⟩
   replace C4 := C4.trans (hb9.mono C4.size)
   replace C0 := C0.below hb9
   replace C1 := C1.below hb9
   replace C2 := C2.below hb9
   replace C3 := C3.below hb9
   replace RO := ownsRow_below RO hb9
   refine hK _ _ ⟨⟨fun _ => C0, fun _ => C1, trivial⟩, ?_⟩
   clear hK K;have C5 := C5.below hb9
   clear hb9;refine tQ [4, 5, 6] ?_;exact bk_RefX_hstores2
 ·go_simp
  have C5 := Blk.new_at w3.drew #[.slice none 0 0, .slice none 0 0] 53 w3.heap.size rfl
  have n0 : w.heap.size < w3.heap.size := C0.lt
  have n1 : W.heap.size < w3.heap.size := C1.lt
  have n2 : w.heap.size + 1 < w3.heap.size := C2.lt
  have n3 : w.heap.size + 1 + 1 < w3.heap.size := C3.lt
  replace C4 := C4.drew.alloc C4.drew.size (.cells #[.slice none 0 0, .slice none 0 0] 53)
  replace C0 := C0.drew.alloc (.cells #[.slice none 0 0, .slice none 0 0] 53)
  replace C1 := C1.drew.alloc (.cells #[.slice none 0 0, .slice none 0 0] 53)
  replace C2 := C2.drew.alloc (.cells #[.slice none 0 0, .slice none 0 0] 53)
  replace RO := RO.drew.alloc (.cells #[.slice none 0 0, .slice none 0 0] 53)
  replace C3 := C3.drew.alloc (.cells #[.slice none 0 0, .slice none 0 0] 53)
  refine hK _ _ ⟨⟨fun _ => C0, fun _ => C1, trivial⟩, ?_⟩
  clear hK K;refine sQ 1 fun K hK => ?_;simp only [GO];go_simp;refine (CE.out _).mono ?_
  rintro e w4 ⟨rfl, hb9⟩
  replace C4 := C4.trans (hb9.mono C4.size)
  replace C0 := C0.below hb9
  replace C1 := C1.below hb9
  replace C2 := C2.below hb9
  replace C3 := C3.below hb9
  replace RO := ownsRow_below RO hb9
  refine hK _ _ ⟨⟨fun _ => C0, fun _ => C1, trivial⟩, ?_⟩
  clear hK K;have C5 := C5.below hb9
  clear hb9;refine sQ 3 fun K hK => ?_;simp only [GO];go_simp;refine (CD.out _).mono ?_
  rintro e w5 ⟨rfl, hb9⟩
  replace C4 := C4.trans (hb9.mono C4.size)
  replace C0 := C0.below hb9
  replace C1 := C1.below hb9
  replace C2 := C2.below hb9
  replace C3 := C3.below hb9
  replace RO := ownsRow_below RO hb9
  refine hK _ _ ⟨⟨fun _ => C0, fun _ => C1, trivial⟩, ?_⟩
  clear hK K;have C5 := C5.below hb9
  clear hb9;refine tQ [4, 5, 6] ?_;exact bk_RefX_hstores2) : P := h
theorem r_Hear_bad (k z : Int) (hk : ¬ ((k = 4 \/ k = 5 \/ k = 7) /\ 1 <= z /\ z <= 65535)) (w : World) :
  Calls Tryz.prog 47 #[.agg (refA (.slice none 0 0)), .int .i64 k, .int .i64 z] w fun e w' => e = .returned (.tuple #[.agg (refA (.slice none 0 0)), didA (.slice none 0 0), .int .i64 2]) /\ Below w.heap.size w w' := by
 have B0 := ((Blk.new w zA 38).alloc (.cells zA 38)).alloc (.cells #[.slice none 0 0, .slice none 0 0] 53)
 have B2 := (Blk.new_at (w.alloc (.cells zA 38)) zA 38 (w.heap.size + 1) (by simp)).alloc (.cells #[.slice none 0 0, .slice none 0 0] 53)
 have B3 := Blk.new_at ((w.alloc (.cells zA 38)).alloc (.cells zA 38)) #[.slice none 0 0, .slice none 0 0] 53 (w.heap.size + 1 + 1) (by simp)
 have B4 : Below w.heap.size w (((w.alloc (.cells zA 38)).alloc (.cells zA 38)).alloc (.cells #[.slice none 0 0, .slice none 0 0] 53)) := by
  exact belw
 have B0 := hid B0; have B2 := hid B2; have B3 := hid B3; have B4 := hid B4
 unfold refA didA
 by_cases h4 : k = 4 \/ k = 5 \/ k = 7
 ·have hz : ¬ (1 <= z /\ z <= 65535) := fun hz => hk ⟨h4, hz⟩
  by_cases hz1 : z < 1
  ·have dz : decide (z < 1) = true := decide_eq_true hz1
   rcases h4 with rfl | rfl | rfl
   ·skip
    exact bk_RefX_hbad1
   ·skip
    exact bk_RefX_hbad1
   ·skip
    exact bk_RefX_hbad1
  ·have dz : decide (z < 1) = false := decide_eq_false hz1
   have dz2 : decide (65535 < z) = true := decide_eq_true (by omega)
   rcases h4 with rfl | rfl | rfl
   ·skip
    exact bk_RefX_hbad1
   ·skip
    exact bk_RefX_hbad1
   ·skip
    exact bk_RefX_hbad1
 ·have e4 : (k != 4) = true := by simp; omega
  have e5 : (k != 5) = true := by simp; omega
  have e7 : (k != 7) = true := by simp; omega
  exact bk_RefX_hbad1
theorem r_Hear4 (z : Int) (hz : 1 <= z /\ z <= 65535) (w : World) :
  Calls Tryz.prog 47 #[.agg (refA (.slice none 0 0)), .int .i64 4, .int .i64 z] w fun e w' => e = .returned (.tuple #[.agg (refA (.slice none 0 0)), didA (.slice none 0 0), .int .i64 0]) /\ Below w.heap.size w w' := by
 have CE := hid (r_send none 0 0)
 have CD := hid (r_done none 0 0)
 have CS := hid (r_Session none 0 0)
 have CF := hid (r_find z)
 have d1 : decide (z < 1) = false := decide_eq_false (by omega)
 have d2 : decide (65535 < z) = false := decide_eq_false (by omega)
 unfold refA rowZ didA at *
 go_enter Tryz.func47, Tryz.ntmps47
 go_wp2_with fail
 obtain ⟨W, hW⟩ : ∃ W, W = (((w.alloc (.cells #[.string ⟨#[]⟩, .int .i64 0, .int .i64 0, .int .i64 0, .int .i64 0, .slice none 0 0, .slice none 0 0, .slice none 0 0] 38)).alloc (.cells #[.string ⟨#[]⟩, .int .i64 0, .int .i64 0, .int .i64 0, .int .i64 0, .slice none 0 0, .slice none 0 0, .slice none 0 0] 38)).alloc (.cells #[.slice none 0 0, .slice none 0 0] 53)) := ⟨_, rfl⟩
 have B0 : Blk W w.heap.size zA 38 := by rw [hW]; exact ((Blk.new w _ _).alloc _).alloc _
 have B2 : Blk W (w.heap.size + 1) zA 38 := by rw [hW]; exact (Blk.new_at _ _ _ _ (by simp)).alloc _
 have B3 : Blk W (w.heap.size + 1 + 1) #[.slice none 0 0, .slice none 0 0] 53 := by rw [hW]; exact Blk.new_at _ _ _ _ (by simp)
 have B4 : Below w.heap.size w W := by
  rw [hW]
  exact belw
 rw [<- hW]
 clear hW;refine (CS.out _).mono ?_
 rintro e w1 ⟨rfl, hb1⟩
 replace B4 := B4.trans (hb1.mono B4.size)
 replace B0 := B0.below hb1
 replace B2 := B2.below hb1
 replace B3 := B3.below hb1
 clear hb1 W;obtain ⟨W, hW⟩ : ∃ W, W = w1 := ⟨_, rfl⟩
 subst hW;have lt0 : w.heap.size < W.heap.size := B0.lt
 have b2 : w.heap.size + 1 < W.heap.size := B2.lt
 have b3 : w.heap.size + 1 + 1 < W.heap.size := B3.lt
 go_wp2_with (first
  | (refine wS 33 9 rfl W.heap.size _ #[.int .i64 1, .string ⟨#[]⟩, .int .i64 0, .int .i64 0, .string ⟨#[]⟩, .string ⟨#[]⟩, .int .i64 0, .bool false, .int .i64 0] rfl rfl (Blk.new W _ _) rfl rfl (by simp [Value.oneCell']) fun w2 hb2 hw2 => ?_
     have C1 := hb2
     have C0 := (B0.alloc _).wrote hw2 (by simp; omega)
     have C2 := (B2.alloc _).wrote hw2 (by simp; omega)
     have C3 := (B3.alloc _).wrote hw2 (by simp; omega)
     have C4 := below_wrote (B4.alloc B4.size _) hw2 (by simp; omega)
     clear hw2 hb2)
  | (refine wL 38 rfl rfl C0 Tryz.underlying38 ?_))
 refine (CF.out _).mono ?_
 rintro e w3 ⟨rfl, hb3⟩
 replace C4 := C4.trans (hb3.mono C4.size)
 replace C0 := C0.below hb3
 replace C1 := C1.below hb3
 replace C2 := C2.below hb3
 replace C3 := C3.below hb3
 clear hb3;have RO := World.ownsRow_nil w3 w.heap.size 81 24
 go_wp2
 exact bk_RefX_htail3
theorem r_Hear7 (z : Int) (hz : 1 <= z /\ z <= 65535) (w : World) :
  Calls Tryz.prog 47 #[.agg (refA (.slice none 0 0)), .int .i64 7, .int .i64 z] w fun e w' => e = .returned (.tuple #[.agg (refA (.slice none 0 0)), didA (.slice none 0 0), .int .i64 0]) /\ Below w.heap.size w w' := by
 have CE := hid (r_send none 0 0)
 have CD := hid (r_done none 0 0)
 have CS := hid (r_Session none 0 0)
 have CF := hid (r_find z)
 have d1 : decide (z < 1) = false := decide_eq_false (by omega)
 have d2 : decide (65535 < z) = false := decide_eq_false (by omega)
 unfold refA rowZ didA at *
 go_enter Tryz.func47, Tryz.ntmps47
 go_wp2_with fail
 obtain ⟨W, hW⟩ : ∃ W, W = (((w.alloc (.cells #[.string ⟨#[]⟩, .int .i64 0, .int .i64 0, .int .i64 0, .int .i64 0, .slice none 0 0, .slice none 0 0, .slice none 0 0] 38)).alloc (.cells #[.string ⟨#[]⟩, .int .i64 0, .int .i64 0, .int .i64 0, .int .i64 0, .slice none 0 0, .slice none 0 0, .slice none 0 0] 38)).alloc (.cells #[.slice none 0 0, .slice none 0 0] 53)) := ⟨_, rfl⟩
 have B0 : Blk W w.heap.size zA 38 := by rw [hW]; exact ((Blk.new w _ _).alloc _).alloc _
 have B2 : Blk W (w.heap.size + 1) zA 38 := by rw [hW]; exact (Blk.new_at _ _ _ _ (by simp)).alloc _
 have B3 : Blk W (w.heap.size + 1 + 1) #[.slice none 0 0, .slice none 0 0] 53 := by rw [hW]; exact Blk.new_at _ _ _ _ (by simp)
 have B4 : Below w.heap.size w W := by
  rw [hW]
  exact belw
 rw [<- hW]
 clear hW;refine (CS.out _).mono ?_
 rintro e w1 ⟨rfl, hb1⟩
 replace B4 := B4.trans (hb1.mono B4.size)
 replace B0 := B0.below hb1
 replace B2 := B2.below hb1
 replace B3 := B3.below hb1
 clear hb1 W;obtain ⟨W, hW⟩ : ∃ W, W = w1 := ⟨_, rfl⟩
 subst hW;have lt0 : w.heap.size < W.heap.size := B0.lt
 have b2 : w.heap.size + 1 < W.heap.size := B2.lt
 have b3 : w.heap.size + 1 + 1 < W.heap.size := B3.lt
 go_wp2_with (first
  | (refine wS 33 9 rfl W.heap.size _ #[.int .i64 1, .string ⟨#[]⟩, .int .i64 0, .int .i64 0, .string ⟨#[]⟩, .string ⟨#[]⟩, .int .i64 0, .bool false, .int .i64 0] rfl rfl (Blk.new W _ _) rfl rfl (by simp [Value.oneCell']) fun w2 hb2 hw2 => ?_
     have C1 := hb2
     have C0 := (B0.alloc _).wrote hw2 (by simp; omega)
     have C2 := (B2.alloc _).wrote hw2 (by simp; omega)
     have C3 := (B3.alloc _).wrote hw2 (by simp; omega)
     have C4 := below_wrote (B4.alloc B4.size _) hw2 (by simp; omega)
     clear hw2 hb2)
  | (refine wL 38 rfl rfl C0 Tryz.underlying38 ?_))
 refine (CF.out _).mono ?_
 rintro e w3 ⟨rfl, hb3⟩
 replace C4 := C4.trans (hb3.mono C4.size)
 replace C0 := C0.below hb3
 replace C1 := C1.below hb3
 replace C2 := C2.below hb3
 replace C3 := C3.below hb3
 clear hb3;have RO := World.ownsRow_nil w3 w.heap.size 81 24
 go_wp2
 exact bk_RefX_htail3
theorem r_Hear5 (z : Int) (hz : 1 <= z /\ z <= 65535) (w : World) :
  Calls Tryz.prog 47 #[.agg (refA (.slice none 0 0)), .int .i64 5, .int .i64 z] w fun e w' => ∃ a n c, e = .returned (.tuple #[.agg (refA (.slice none 0 0)), didA (.slice a n c), .int .i64 0]) /\ w'.ownsRow w.heap.size 81 24 (.slice a n c) 1 (pubrel z).cells /\ Below w.heap.size w w' := by
 have SY := hid (r_says (pubrel z))
 have CE := hid r_send;have CD := hid r_done;have CS := hid (r_Session none 0 0)
 have CF := hid (r_find z)
 have d1 : decide (z < 1) = false := decide_eq_false (by omega)
 have d2 : decide (65535 < z) = false := decide_eq_false (by omega)
 unfold refA rowZ didA at *
 go_enter Tryz.func47, Tryz.ntmps47
 go_wp2_with fail
 obtain ⟨W, hW⟩ : ∃ W, W = (((w.alloc (.cells #[.string ⟨#[]⟩, .int .i64 0, .int .i64 0, .int .i64 0, .int .i64 0, .slice none 0 0, .slice none 0 0, .slice none 0 0] 38)).alloc (.cells #[.string ⟨#[]⟩, .int .i64 0, .int .i64 0, .int .i64 0, .int .i64 0, .slice none 0 0, .slice none 0 0, .slice none 0 0] 38)).alloc (.cells #[.slice none 0 0, .slice none 0 0] 53)) := ⟨_, rfl⟩
 have B0 : Blk W w.heap.size zA 38 := by rw [hW]; exact ((Blk.new w _ _).alloc _).alloc _
 have B2 : Blk W (w.heap.size + 1) zA 38 := by rw [hW]; exact (Blk.new_at _ _ _ _ (by simp)).alloc _
 have B3 : Blk W (w.heap.size + 1 + 1) #[.slice none 0 0, .slice none 0 0] 53 := by rw [hW]; exact Blk.new_at _ _ _ _ (by simp)
 have B4 : Below w.heap.size w W := by
  rw [hW]
  exact belw
 rw [<- hW]
 clear hW;refine (CS.out _).mono ?_
 rintro e w1 ⟨rfl, hb1⟩
 replace B4 := B4.trans (hb1.mono B4.size)
 replace B0 := B0.below hb1
 replace B2 := B2.below hb1
 replace B3 := B3.below hb1
 clear hb1 W;obtain ⟨W, hW⟩ : ∃ W, W = w1 := ⟨_, rfl⟩
 subst hW;have lt0 : w.heap.size < W.heap.size := B0.lt
 have b2 : w.heap.size + 1 < W.heap.size := B2.lt
 have b3 : w.heap.size + 1 + 1 < W.heap.size := B3.lt
 go_wp2_with (first
  | (refine wS 33 9 rfl W.heap.size _ #[.int .i64 1, .string ⟨#[]⟩, .int .i64 0, .int .i64 0, .string ⟨#[]⟩, .string ⟨#[]⟩, .int .i64 0, .bool false, .int .i64 0] rfl rfl (Blk.new W _ _) rfl rfl (by simp [Value.oneCell']) fun w2 hb2 hw2 => ?_
     have C1 := hb2
     have C0 := (B0.alloc _).wrote hw2 (by simp; omega)
     have C2 := (B2.alloc _).wrote hw2 (by simp; omega)
     have C3 := (B3.alloc _).wrote hw2 (by simp; omega)
     have C4 := below_wrote (B4.alloc B4.size _) hw2 (by simp; omega)
     clear hw2 hb2)
  | (refine wL 38 rfl rfl C0 Tryz.underlying38 ?_))
 refine (CF.out _).mono ?_
 rintro e w3 ⟨rfl, hb3⟩
 replace C4 := C4.trans (hb3.mono C4.size)
 replace C0 := C0.below hb3
 replace C1 := C1.below hb3
 replace C2 := C2.below hb3
 replace C3 := C3.below hb3
 clear hb3;go_wp2_with (refine wL 38 rfl rfl C0 Tryz.underlying38 ?_)
 refine (SY.out _).mono ?_
 rintro e w4 ⟨a, n, c, rfl, RO, hb4⟩
 have CE := hid (CE.out a n c)
 have CD := hid (CD.out a n c)
 have hsz := C4.size
 replace RO := ownsRow_mono RO hsz
 replace C4 := C4.trans (hb4.mono C4.size)
 replace C0 := C0.below hb4
 replace C1 := C1.below hb4
 replace C2 := C2.below hb4
 replace C3 := C3.below hb4
 clear hb4
 go_wp2_with (
  refine wS 38 8 rfl w.heap.size _ #[.string ⟨#[]⟩, .int .i64 0, .int .i64 0, .int .i64 0, .int .i64 0, .slice none 0 0, .slice a n c, .slice none 0 0] rfl rfl C0 rfl rfl (by simp [Value.oneCell']) fun w3 h3 g3 => ?_
  replace RO := not_own RO g3 (fun x hx hb => by simp at hx; subst hx; exact block_not_row C0 (by decide) RO (mem_blk.1 hb).symm)
  replace C1 := C1.wrote g3 (by simp; omega)
  replace C2 := C2.wrote g3 (by simp)
  replace C3 := C3.wrote g3 (by simp; omega)
  replace C4 := below_wrote C4 g3 (by simp)
  replace C0 := h3
  clear h3 g3)
 exact bk_RefX_htail3
end
section
theorem r_Same_refl (p : PackV) (w : World) :
  Calls Tryz.prog 59 #[.agg p.cells.toArray, .agg p.cells.toArray] w fun e w' => e = .returned (.bool true) /\ Below w.heap.size w w' := by
 obtain ⟨q, hq⟩ : ∃ q, q = p := ⟨_, rfl⟩
 obtain ⟨W, hW⟩ : ∃ W, W = (w.alloc (.cells p.cells.toArray 81)).alloc (.cells q.cells.toArray 81) := ⟨_, rfl⟩
 have pB : Blk W w.heap.size p.cells.toArray 81 := by rw [hW]; exact (Blk.new w _ _).alloc _
 have qB : Blk W (w.heap.size + 1) q.cells.toArray 81 := by rw [hW]; exact Blk.new_at _ _ _ _ (by simp)
 have B4 : Below w.heap.size w W := by
  rw [hW]
  exact belw
 rw [hq] at qB hW
 have p0 : W.cell? ⟨w.heap.size, 0, none⟩ = some (.int .i64 p.kind) := pB.cell 0
 have p1 : W.cell? ⟨w.heap.size, 1, none⟩ = some (.bool p.dup) := pB.cell 1
 have p2 : W.cell? ⟨w.heap.size, 2, none⟩ = some (.bool p.retain) := pB.cell 2
 have p3 : W.cell? ⟨w.heap.size, 3, none⟩ = some (.int .i64 p.qos) := pB.cell 3
 have p4 : W.cell? ⟨w.heap.size, 4, none⟩ = some (.string ⟨p.topic.toArray⟩) := pB.cell 4
 have p5 : W.cell? ⟨w.heap.size, 5, none⟩ = some (.string ⟨p.body.toArray⟩) := pB.cell 5
 have p6 : W.cell? ⟨w.heap.size, 6, none⟩ = some (.int .i64 p.id) := pB.cell 6
 have p7 : W.cell? ⟨w.heap.size, 7, none⟩ = some (.string ⟨#[]⟩) := pB.cell 7
 have p8 : W.cell? ⟨w.heap.size, 8, none⟩ = some (.bool false) := pB.cell 8
 have p9 : W.cell? ⟨w.heap.size, 9, none⟩ = some (.int .i64 0) := pB.cell 9
 have p10 : W.cell? ⟨w.heap.size, 10, none⟩ = some (.bool false) := pB.cell 10
 have p11 : W.cell? ⟨w.heap.size, 11, none⟩ = some (.string ⟨#[]⟩) := pB.cell 11
 have p12 : W.cell? ⟨w.heap.size, 12, none⟩ = some (.string ⟨#[]⟩) := pB.cell 12
 have p13 : W.cell? ⟨w.heap.size, 13, none⟩ = some (.int .i64 0) := pB.cell 13
 have p14 : W.cell? ⟨w.heap.size, 14, none⟩ = some (.bool false) := pB.cell 14
 have p15 : W.cell? ⟨w.heap.size, 15, none⟩ = some (.bool false) := pB.cell 15
 have p16 : W.cell? ⟨w.heap.size, 16, none⟩ = some (.bool false) := pB.cell 16
 have p17 : W.cell? ⟨w.heap.size, 17, none⟩ = some (.string ⟨#[]⟩) := pB.cell 17
 have p18 : W.cell? ⟨w.heap.size, 18, none⟩ = some (.string ⟨#[]⟩) := pB.cell 18
 have p19 : W.cell? ⟨w.heap.size, 19, none⟩ = some (.bool false) := pB.cell 19
 have p20 : W.cell? ⟨w.heap.size, 20, none⟩ = some (.int .i64 0) := pB.cell 20
 have p21 : W.cell? ⟨w.heap.size, 21, none⟩ = some (.slice none 0 0) := pB.cell 21
 have p22 : W.cell? ⟨w.heap.size, 22, none⟩ = some (.slice none 0 0) := pB.cell 22
 have p23 : W.cell? ⟨w.heap.size, 23, none⟩ = some (.slice none 0 0) := pB.cell 23
 have q0 : W.cell? ⟨w.heap.size + 1, 0, none⟩ = some (.int .i64 p.kind) := qB.cell 0
 have q1 : W.cell? ⟨w.heap.size + 1, 1, none⟩ = some (.bool p.dup) := qB.cell 1
 have q2 : W.cell? ⟨w.heap.size + 1, 2, none⟩ = some (.bool p.retain) := qB.cell 2
 have q3 : W.cell? ⟨w.heap.size + 1, 3, none⟩ = some (.int .i64 p.qos) := qB.cell 3
 have q4 : W.cell? ⟨w.heap.size + 1, 4, none⟩ = some (.string ⟨p.topic.toArray⟩) := qB.cell 4
 have q5 : W.cell? ⟨w.heap.size + 1, 5, none⟩ = some (.string ⟨p.body.toArray⟩) := qB.cell 5
 have q6 : W.cell? ⟨w.heap.size + 1, 6, none⟩ = some (.int .i64 p.id) := qB.cell 6
 have q7 : W.cell? ⟨w.heap.size + 1, 7, none⟩ = some (.string ⟨#[]⟩) := qB.cell 7
 have q8 : W.cell? ⟨w.heap.size + 1, 8, none⟩ = some (.bool false) := qB.cell 8
 have q9 : W.cell? ⟨w.heap.size + 1, 9, none⟩ = some (.int .i64 0) := qB.cell 9
 have q10 : W.cell? ⟨w.heap.size + 1, 10, none⟩ = some (.bool false) := qB.cell 10
 have q11 : W.cell? ⟨w.heap.size + 1, 11, none⟩ = some (.string ⟨#[]⟩) := qB.cell 11
 have q12 : W.cell? ⟨w.heap.size + 1, 12, none⟩ = some (.string ⟨#[]⟩) := qB.cell 12
 have q13 : W.cell? ⟨w.heap.size + 1, 13, none⟩ = some (.int .i64 0) := qB.cell 13
 have q14 : W.cell? ⟨w.heap.size + 1, 14, none⟩ = some (.bool false) := qB.cell 14
 have q15 : W.cell? ⟨w.heap.size + 1, 15, none⟩ = some (.bool false) := qB.cell 15
 have q16 : W.cell? ⟨w.heap.size + 1, 16, none⟩ = some (.bool false) := qB.cell 16
 have q17 : W.cell? ⟨w.heap.size + 1, 17, none⟩ = some (.string ⟨#[]⟩) := qB.cell 17
 have q18 : W.cell? ⟨w.heap.size + 1, 18, none⟩ = some (.string ⟨#[]⟩) := qB.cell 18
 have q19 : W.cell? ⟨w.heap.size + 1, 19, none⟩ = some (.bool false) := qB.cell 19
 have q20 : W.cell? ⟨w.heap.size + 1, 20, none⟩ = some (.int .i64 0) := qB.cell 20
 have q21 : W.cell? ⟨w.heap.size + 1, 21, none⟩ = some (.slice none 0 0) := qB.cell 21
 have q22 : W.cell? ⟨w.heap.size + 1, 22, none⟩ = some (.slice none 0 0) := qB.cell 22
 have q23 : W.cell? ⟨w.heap.size + 1, 23, none⟩ = some (.slice none 0 0) := qB.cell 23
 clear pB qB hq;go_enter Tryz.func59, Tryz.ntmps59
 go_upto_region 1 with (fail)
 rw [<- hW]
 clear hW;go_wp2
 go_loopw [5] (fun i wr => i = .int .i64 0 /\ W = wr) (fun _ _ => 0)
 case atStart => exact ⟨rfl, rfl⟩
 case round =>
  obtain ⟨rfl, rfl⟩ := hrel
  go_wp2
  go_loopw [6] (fun i wr => i = .int .i64 0 /\ W = wr) (fun _ _ => 0)
  case atStart => exact ⟨rfl, rfl⟩
  case round =>
   obtain ⟨rfl, rfl⟩ := hrel
   go_wp2
   go_loopw [7] (fun i wr => i = .int .i64 0 /\ W = wr) (fun _ _ => 0)
   case atStart => exact ⟨rfl, rfl⟩
   case round =>
    obtain ⟨rfl, rfl⟩ := hrel
    go_wp2
    go_ret
    exact ⟨rfl, B4⟩
theorem r_Same_any (p q : PackV) (w : World) :
  Calls Tryz.prog 59 #[.agg p.cells.toArray, .agg q.cells.toArray] w fun e w' => (∃ b, e = .returned (.bool b)) /\ Below w.heap.size w w' := by
 obtain ⟨W, hW⟩ : ∃ W, W = (w.alloc (.cells p.cells.toArray 81)).alloc (.cells q.cells.toArray 81) := ⟨_, rfl⟩
 have pB : Blk W w.heap.size p.cells.toArray 81 := by rw [hW]; exact (Blk.new w _ _).alloc _
 have qB : Blk W (w.heap.size + 1) q.cells.toArray 81 := by rw [hW]; exact Blk.new_at _ _ _ _ (by simp)
 have B4 : Below w.heap.size w W := by
  rw [hW]
  exact belw
 have p0 : W.cell? ⟨w.heap.size, 0, none⟩ = some (.int .i64 p.kind) := pB.cell 0
 have p1 : W.cell? ⟨w.heap.size, 1, none⟩ = some (.bool p.dup) := pB.cell 1
 have p2 : W.cell? ⟨w.heap.size, 2, none⟩ = some (.bool p.retain) := pB.cell 2
 have p3 : W.cell? ⟨w.heap.size, 3, none⟩ = some (.int .i64 p.qos) := pB.cell 3
 have p4 : W.cell? ⟨w.heap.size, 4, none⟩ = some (.string ⟨p.topic.toArray⟩) := pB.cell 4
 have p5 : W.cell? ⟨w.heap.size, 5, none⟩ = some (.string ⟨p.body.toArray⟩) := pB.cell 5
 have p6 : W.cell? ⟨w.heap.size, 6, none⟩ = some (.int .i64 p.id) := pB.cell 6
 have p7 : W.cell? ⟨w.heap.size, 7, none⟩ = some (.string ⟨#[]⟩) := pB.cell 7
 have p8 : W.cell? ⟨w.heap.size, 8, none⟩ = some (.bool false) := pB.cell 8
 have p9 : W.cell? ⟨w.heap.size, 9, none⟩ = some (.int .i64 0) := pB.cell 9
 have p10 : W.cell? ⟨w.heap.size, 10, none⟩ = some (.bool false) := pB.cell 10
 have p11 : W.cell? ⟨w.heap.size, 11, none⟩ = some (.string ⟨#[]⟩) := pB.cell 11
 have p12 : W.cell? ⟨w.heap.size, 12, none⟩ = some (.string ⟨#[]⟩) := pB.cell 12
 have p13 : W.cell? ⟨w.heap.size, 13, none⟩ = some (.int .i64 0) := pB.cell 13
 have p14 : W.cell? ⟨w.heap.size, 14, none⟩ = some (.bool false) := pB.cell 14
 have p15 : W.cell? ⟨w.heap.size, 15, none⟩ = some (.bool false) := pB.cell 15
 have p16 : W.cell? ⟨w.heap.size, 16, none⟩ = some (.bool false) := pB.cell 16
 have p17 : W.cell? ⟨w.heap.size, 17, none⟩ = some (.string ⟨#[]⟩) := pB.cell 17
 have p18 : W.cell? ⟨w.heap.size, 18, none⟩ = some (.string ⟨#[]⟩) := pB.cell 18
 have p19 : W.cell? ⟨w.heap.size, 19, none⟩ = some (.bool false) := pB.cell 19
 have p20 : W.cell? ⟨w.heap.size, 20, none⟩ = some (.int .i64 0) := pB.cell 20
 have p21 : W.cell? ⟨w.heap.size, 21, none⟩ = some (.slice none 0 0) := pB.cell 21
 have p22 : W.cell? ⟨w.heap.size, 22, none⟩ = some (.slice none 0 0) := pB.cell 22
 have p23 : W.cell? ⟨w.heap.size, 23, none⟩ = some (.slice none 0 0) := pB.cell 23
 have q0 : W.cell? ⟨w.heap.size + 1, 0, none⟩ = some (.int .i64 q.kind) := qB.cell 0
 have q1 : W.cell? ⟨w.heap.size + 1, 1, none⟩ = some (.bool q.dup) := qB.cell 1
 have q2 : W.cell? ⟨w.heap.size + 1, 2, none⟩ = some (.bool q.retain) := qB.cell 2
 have q3 : W.cell? ⟨w.heap.size + 1, 3, none⟩ = some (.int .i64 q.qos) := qB.cell 3
 have q4 : W.cell? ⟨w.heap.size + 1, 4, none⟩ = some (.string ⟨q.topic.toArray⟩) := qB.cell 4
 have q5 : W.cell? ⟨w.heap.size + 1, 5, none⟩ = some (.string ⟨q.body.toArray⟩) := qB.cell 5
 have q6 : W.cell? ⟨w.heap.size + 1, 6, none⟩ = some (.int .i64 q.id) := qB.cell 6
 have q7 : W.cell? ⟨w.heap.size + 1, 7, none⟩ = some (.string ⟨#[]⟩) := qB.cell 7
 have q8 : W.cell? ⟨w.heap.size + 1, 8, none⟩ = some (.bool false) := qB.cell 8
 have q9 : W.cell? ⟨w.heap.size + 1, 9, none⟩ = some (.int .i64 0) := qB.cell 9
 have q10 : W.cell? ⟨w.heap.size + 1, 10, none⟩ = some (.bool false) := qB.cell 10
 have q11 : W.cell? ⟨w.heap.size + 1, 11, none⟩ = some (.string ⟨#[]⟩) := qB.cell 11
 have q12 : W.cell? ⟨w.heap.size + 1, 12, none⟩ = some (.string ⟨#[]⟩) := qB.cell 12
 have q13 : W.cell? ⟨w.heap.size + 1, 13, none⟩ = some (.int .i64 0) := qB.cell 13
 have q14 : W.cell? ⟨w.heap.size + 1, 14, none⟩ = some (.bool false) := qB.cell 14
 have q15 : W.cell? ⟨w.heap.size + 1, 15, none⟩ = some (.bool false) := qB.cell 15
 have q16 : W.cell? ⟨w.heap.size + 1, 16, none⟩ = some (.bool false) := qB.cell 16
 have q17 : W.cell? ⟨w.heap.size + 1, 17, none⟩ = some (.string ⟨#[]⟩) := qB.cell 17
 have q18 : W.cell? ⟨w.heap.size + 1, 18, none⟩ = some (.string ⟨#[]⟩) := qB.cell 18
 have q19 : W.cell? ⟨w.heap.size + 1, 19, none⟩ = some (.bool false) := qB.cell 19
 have q20 : W.cell? ⟨w.heap.size + 1, 20, none⟩ = some (.int .i64 0) := qB.cell 20
 have q21 : W.cell? ⟨w.heap.size + 1, 21, none⟩ = some (.slice none 0 0) := qB.cell 21
 have q22 : W.cell? ⟨w.heap.size + 1, 22, none⟩ = some (.slice none 0 0) := qB.cell 22
 have q23 : W.cell? ⟨w.heap.size + 1, 23, none⟩ = some (.slice none 0 0) := qB.cell 23
 clear pB qB;go_enter Tryz.func59, Tryz.ntmps59
 go_upto_region 1 with (fail)
 rw [<- hW]
 clear hW;go_wp2
 go_loopw [5] (fun i wr => i = .int .i64 0 /\ W = wr) (fun _ _ => 0)
 case atStart => exact ⟨rfl, rfl⟩
 case round =>
  obtain ⟨rfl, rfl⟩ := hrel
  go_wp2
  go_loopw [6] (fun i wr => i = .int .i64 0 /\ W = wr) (fun _ _ => 0)
  case atStart => exact ⟨rfl, rfl⟩
  case round =>
   obtain ⟨rfl, rfl⟩ := hrel
   go_wp2
   go_loopw [7] (fun i wr => i = .int .i64 0 /\ W = wr) (fun _ _ => 0)
   case atStart => exact ⟨rfl, rfl⟩
   case round =>
    obtain ⟨rfl, rfl⟩ := hrel
    go_wp2
    all_goals (go_ret; exact ⟨⟨_, rfl⟩, B4⟩)
end
end Go.Proofs.YtoinabapaeebfaaGreatDoor
