/- The reference's outbox, while it is empty: Hear. -/
import Derived.Test.YtoinabapaeebfaaGreatDoorPk13
set_option linter.unusedSimpArgs false
set_option linter.unusedVariables false
namespace Go.Proofs.YtoinabapaeebfaaGreatDoor
open Go.RowKit Go.Shelf

set_option maxRecDepth 100000 in
set_option maxHeartbeats 2000000 in
theorem r_Hear_bad (k z : Int) (hk : ¬ ((k = 4 ∨ k = 5 ∨ k = 7) ∧ 1 ≤ z ∧ z ≤ 65535)) (w : World) :
    Calls Tryz.prog 47 #[.agg (refA (.slice none 0 0)), .int .i64 k, .int .i64 z] w fun e w' => e = .returned (.tuple #[.agg (refA (.slice none 0 0)), didA (.slice none 0 0), .int .i64 2]) ∧ Below w.heap.size w w' := by
  have B0 := ((Blk.new w zA 38).alloc (.cells zA 38)).alloc (.cells #[.slice none 0 0, .slice none 0 0] 53)
  have B2 := (Blk.new_at (w.alloc (.cells zA 38)) zA 38 (w.heap.size + 1) (by simp)).alloc (.cells #[.slice none 0 0, .slice none 0 0] 53)
  have B3 := Blk.new_at ((w.alloc (.cells zA 38)).alloc (.cells zA 38)) #[.slice none 0 0, .slice none 0 0] 53 (w.heap.size + 1 + 1) (by simp)
  have B4 : Below w.heap.size w (((w.alloc (.cells zA 38)).alloc (.cells zA 38)).alloc (.cells #[.slice none 0 0, .slice none 0 0] 53)) := by
    repeat (first | exact Below.refl _ _ | (refine Below.setCell ?_ (by simp <;> omega) _) | (refine Below.alloc ?_ (by simp <;> omega) _) | refine Below.drew ?_)
  have B0 := hid B0; have B2 := hid B2; have B3 := hid B3; have B4 := hid B4
  unfold refA didA
  by_cases h4 : k = 4 ∨ k = 5 ∨ k = 7
  · have hz : ¬ (1 ≤ z ∧ z ≤ 65535) := fun hz => hk ⟨h4, hz⟩
    by_cases hz1 : z < 1
    · have dz : decide (z < 1) = true := decide_eq_true hz1
      rcases h4 with rfl | rfl | rfl
      · skip
        go_enter Tryz.func47, Tryz.ntmps47
        go_wp2_with (first
          | (refine wpList_load_blk rfl 38 _ rfl w.heap.size #[.string ⟨#[]⟩, .int .i64 0, .int .i64 0, .int .i64 0, .int .i64 0, .slice none 0 0, .slice none 0 0, .slice none 0 0] rfl B0.out Tryz.underlying38 rfl (by kernel_rfl) ?_)
          | (refine wpList_store_blk rfl 38 38 _ _ rfl 8 (fun w => by kernel_rfl) (w.heap.size + 1) _ #[.string ⟨#[]⟩, .int .i64 0, .int .i64 0, .int .i64 0, .int .i64 0, .slice none 0 0, .slice none 0 0, .slice none 0 0] rfl rfl B2.out rfl rfl (by simp [Value.oneCell']) fun w5 h5 g5 => ?_
             have D3 := B3.out.wrote g5 (by simp)
             have D4 := below_wrote B4.out g5 (by simp))
          | (refine wpList_store_blk rfl 53 53 _ _ rfl 2 (fun w => by kernel_rfl) (w.heap.size + 1 + 1) _ #[.slice none 0 0, .slice none 0 0] rfl rfl D3 rfl rfl (by simp [Value.oneCell']) fun w6 h6 g6 => ?_
             have E2 := h5.wrote g6 (by simp)
             have E4 := below_wrote D4 g6 (by simp; omega)))
        change bodyPost Tryz.prog Tryz.f47 _ _ _ _
        refine bodyPost_ret (v := .tuple #[.agg #[.string ⟨#[]⟩, .int .i64 0, .int .i64 0, .int .i64 0, .int .i64 0, .slice none 0 0, .slice none 0 0, .slice none 0 0], .agg #[.slice none 0 0, .slice none 0 0], .int .i64 2]) ?_ rfl ⟨rfl, E4⟩
        have l1 := run_loadVar_blk (P := Tryz.prog) E2 38 Tryz.underlying38 rfl (by kernel_rfl)
        have l2 := run_loadVar_blk (P := Tryz.prog) h6 53 Tryz.underlying53 rfl (by kernel_rfl)
        exact results_cct Tryz.results47 rfl rfl l1 l2 rfl
      · skip
        go_enter Tryz.func47, Tryz.ntmps47
        go_wp2_with (first
          | (refine wpList_load_blk rfl 38 _ rfl w.heap.size #[.string ⟨#[]⟩, .int .i64 0, .int .i64 0, .int .i64 0, .int .i64 0, .slice none 0 0, .slice none 0 0, .slice none 0 0] rfl B0.out Tryz.underlying38 rfl (by kernel_rfl) ?_)
          | (refine wpList_store_blk rfl 38 38 _ _ rfl 8 (fun w => by kernel_rfl) (w.heap.size + 1) _ #[.string ⟨#[]⟩, .int .i64 0, .int .i64 0, .int .i64 0, .int .i64 0, .slice none 0 0, .slice none 0 0, .slice none 0 0] rfl rfl B2.out rfl rfl (by simp [Value.oneCell']) fun w5 h5 g5 => ?_
             have D3 := B3.out.wrote g5 (by simp)
             have D4 := below_wrote B4.out g5 (by simp))
          | (refine wpList_store_blk rfl 53 53 _ _ rfl 2 (fun w => by kernel_rfl) (w.heap.size + 1 + 1) _ #[.slice none 0 0, .slice none 0 0] rfl rfl D3 rfl rfl (by simp [Value.oneCell']) fun w6 h6 g6 => ?_
             have E2 := h5.wrote g6 (by simp)
             have E4 := below_wrote D4 g6 (by simp; omega)))
        change bodyPost Tryz.prog Tryz.f47 _ _ _ _
        refine bodyPost_ret (v := .tuple #[.agg #[.string ⟨#[]⟩, .int .i64 0, .int .i64 0, .int .i64 0, .int .i64 0, .slice none 0 0, .slice none 0 0, .slice none 0 0], .agg #[.slice none 0 0, .slice none 0 0], .int .i64 2]) ?_ rfl ⟨rfl, E4⟩
        have l1 := run_loadVar_blk (P := Tryz.prog) E2 38 Tryz.underlying38 rfl (by kernel_rfl)
        have l2 := run_loadVar_blk (P := Tryz.prog) h6 53 Tryz.underlying53 rfl (by kernel_rfl)
        exact results_cct Tryz.results47 rfl rfl l1 l2 rfl
      · skip
        go_enter Tryz.func47, Tryz.ntmps47
        go_wp2_with (first
          | (refine wpList_load_blk rfl 38 _ rfl w.heap.size #[.string ⟨#[]⟩, .int .i64 0, .int .i64 0, .int .i64 0, .int .i64 0, .slice none 0 0, .slice none 0 0, .slice none 0 0] rfl B0.out Tryz.underlying38 rfl (by kernel_rfl) ?_)
          | (refine wpList_store_blk rfl 38 38 _ _ rfl 8 (fun w => by kernel_rfl) (w.heap.size + 1) _ #[.string ⟨#[]⟩, .int .i64 0, .int .i64 0, .int .i64 0, .int .i64 0, .slice none 0 0, .slice none 0 0, .slice none 0 0] rfl rfl B2.out rfl rfl (by simp [Value.oneCell']) fun w5 h5 g5 => ?_
             have D3 := B3.out.wrote g5 (by simp)
             have D4 := below_wrote B4.out g5 (by simp))
          | (refine wpList_store_blk rfl 53 53 _ _ rfl 2 (fun w => by kernel_rfl) (w.heap.size + 1 + 1) _ #[.slice none 0 0, .slice none 0 0] rfl rfl D3 rfl rfl (by simp [Value.oneCell']) fun w6 h6 g6 => ?_
             have E2 := h5.wrote g6 (by simp)
             have E4 := below_wrote D4 g6 (by simp; omega)))
        change bodyPost Tryz.prog Tryz.f47 _ _ _ _
        refine bodyPost_ret (v := .tuple #[.agg #[.string ⟨#[]⟩, .int .i64 0, .int .i64 0, .int .i64 0, .int .i64 0, .slice none 0 0, .slice none 0 0, .slice none 0 0], .agg #[.slice none 0 0, .slice none 0 0], .int .i64 2]) ?_ rfl ⟨rfl, E4⟩
        have l1 := run_loadVar_blk (P := Tryz.prog) E2 38 Tryz.underlying38 rfl (by kernel_rfl)
        have l2 := run_loadVar_blk (P := Tryz.prog) h6 53 Tryz.underlying53 rfl (by kernel_rfl)
        exact results_cct Tryz.results47 rfl rfl l1 l2 rfl
    · have dz : decide (z < 1) = false := decide_eq_false hz1
      have dz2 : decide (65535 < z) = true := decide_eq_true (by omega)
      rcases h4 with rfl | rfl | rfl
      · skip
        go_enter Tryz.func47, Tryz.ntmps47
        go_wp2_with (first
          | (refine wpList_load_blk rfl 38 _ rfl w.heap.size #[.string ⟨#[]⟩, .int .i64 0, .int .i64 0, .int .i64 0, .int .i64 0, .slice none 0 0, .slice none 0 0, .slice none 0 0] rfl B0.out Tryz.underlying38 rfl (by kernel_rfl) ?_)
          | (refine wpList_store_blk rfl 38 38 _ _ rfl 8 (fun w => by kernel_rfl) (w.heap.size + 1) _ #[.string ⟨#[]⟩, .int .i64 0, .int .i64 0, .int .i64 0, .int .i64 0, .slice none 0 0, .slice none 0 0, .slice none 0 0] rfl rfl B2.out rfl rfl (by simp [Value.oneCell']) fun w5 h5 g5 => ?_
             have D3 := B3.out.wrote g5 (by simp)
             have D4 := below_wrote B4.out g5 (by simp))
          | (refine wpList_store_blk rfl 53 53 _ _ rfl 2 (fun w => by kernel_rfl) (w.heap.size + 1 + 1) _ #[.slice none 0 0, .slice none 0 0] rfl rfl D3 rfl rfl (by simp [Value.oneCell']) fun w6 h6 g6 => ?_
             have E2 := h5.wrote g6 (by simp)
             have E4 := below_wrote D4 g6 (by simp; omega)))
        change bodyPost Tryz.prog Tryz.f47 _ _ _ _
        refine bodyPost_ret (v := .tuple #[.agg #[.string ⟨#[]⟩, .int .i64 0, .int .i64 0, .int .i64 0, .int .i64 0, .slice none 0 0, .slice none 0 0, .slice none 0 0], .agg #[.slice none 0 0, .slice none 0 0], .int .i64 2]) ?_ rfl ⟨rfl, E4⟩
        have l1 := run_loadVar_blk (P := Tryz.prog) E2 38 Tryz.underlying38 rfl (by kernel_rfl)
        have l2 := run_loadVar_blk (P := Tryz.prog) h6 53 Tryz.underlying53 rfl (by kernel_rfl)
        exact results_cct Tryz.results47 rfl rfl l1 l2 rfl
      · skip
        go_enter Tryz.func47, Tryz.ntmps47
        go_wp2_with (first
          | (refine wpList_load_blk rfl 38 _ rfl w.heap.size #[.string ⟨#[]⟩, .int .i64 0, .int .i64 0, .int .i64 0, .int .i64 0, .slice none 0 0, .slice none 0 0, .slice none 0 0] rfl B0.out Tryz.underlying38 rfl (by kernel_rfl) ?_)
          | (refine wpList_store_blk rfl 38 38 _ _ rfl 8 (fun w => by kernel_rfl) (w.heap.size + 1) _ #[.string ⟨#[]⟩, .int .i64 0, .int .i64 0, .int .i64 0, .int .i64 0, .slice none 0 0, .slice none 0 0, .slice none 0 0] rfl rfl B2.out rfl rfl (by simp [Value.oneCell']) fun w5 h5 g5 => ?_
             have D3 := B3.out.wrote g5 (by simp)
             have D4 := below_wrote B4.out g5 (by simp))
          | (refine wpList_store_blk rfl 53 53 _ _ rfl 2 (fun w => by kernel_rfl) (w.heap.size + 1 + 1) _ #[.slice none 0 0, .slice none 0 0] rfl rfl D3 rfl rfl (by simp [Value.oneCell']) fun w6 h6 g6 => ?_
             have E2 := h5.wrote g6 (by simp)
             have E4 := below_wrote D4 g6 (by simp; omega)))
        change bodyPost Tryz.prog Tryz.f47 _ _ _ _
        refine bodyPost_ret (v := .tuple #[.agg #[.string ⟨#[]⟩, .int .i64 0, .int .i64 0, .int .i64 0, .int .i64 0, .slice none 0 0, .slice none 0 0, .slice none 0 0], .agg #[.slice none 0 0, .slice none 0 0], .int .i64 2]) ?_ rfl ⟨rfl, E4⟩
        have l1 := run_loadVar_blk (P := Tryz.prog) E2 38 Tryz.underlying38 rfl (by kernel_rfl)
        have l2 := run_loadVar_blk (P := Tryz.prog) h6 53 Tryz.underlying53 rfl (by kernel_rfl)
        exact results_cct Tryz.results47 rfl rfl l1 l2 rfl
      · skip
        go_enter Tryz.func47, Tryz.ntmps47
        go_wp2_with (first
          | (refine wpList_load_blk rfl 38 _ rfl w.heap.size #[.string ⟨#[]⟩, .int .i64 0, .int .i64 0, .int .i64 0, .int .i64 0, .slice none 0 0, .slice none 0 0, .slice none 0 0] rfl B0.out Tryz.underlying38 rfl (by kernel_rfl) ?_)
          | (refine wpList_store_blk rfl 38 38 _ _ rfl 8 (fun w => by kernel_rfl) (w.heap.size + 1) _ #[.string ⟨#[]⟩, .int .i64 0, .int .i64 0, .int .i64 0, .int .i64 0, .slice none 0 0, .slice none 0 0, .slice none 0 0] rfl rfl B2.out rfl rfl (by simp [Value.oneCell']) fun w5 h5 g5 => ?_
             have D3 := B3.out.wrote g5 (by simp)
             have D4 := below_wrote B4.out g5 (by simp))
          | (refine wpList_store_blk rfl 53 53 _ _ rfl 2 (fun w => by kernel_rfl) (w.heap.size + 1 + 1) _ #[.slice none 0 0, .slice none 0 0] rfl rfl D3 rfl rfl (by simp [Value.oneCell']) fun w6 h6 g6 => ?_
             have E2 := h5.wrote g6 (by simp)
             have E4 := below_wrote D4 g6 (by simp; omega)))
        change bodyPost Tryz.prog Tryz.f47 _ _ _ _
        refine bodyPost_ret (v := .tuple #[.agg #[.string ⟨#[]⟩, .int .i64 0, .int .i64 0, .int .i64 0, .int .i64 0, .slice none 0 0, .slice none 0 0, .slice none 0 0], .agg #[.slice none 0 0, .slice none 0 0], .int .i64 2]) ?_ rfl ⟨rfl, E4⟩
        have l1 := run_loadVar_blk (P := Tryz.prog) E2 38 Tryz.underlying38 rfl (by kernel_rfl)
        have l2 := run_loadVar_blk (P := Tryz.prog) h6 53 Tryz.underlying53 rfl (by kernel_rfl)
        exact results_cct Tryz.results47 rfl rfl l1 l2 rfl
  · have e4 : (k != 4) = true := by simp; omega
    have e5 : (k != 5) = true := by simp; omega
    have e7 : (k != 7) = true := by simp; omega
    go_enter Tryz.func47, Tryz.ntmps47
    go_wp2_with (first
      | (refine wpList_load_blk rfl 38 _ rfl w.heap.size #[.string ⟨#[]⟩, .int .i64 0, .int .i64 0, .int .i64 0, .int .i64 0, .slice none 0 0, .slice none 0 0, .slice none 0 0] rfl B0.out Tryz.underlying38 rfl (by kernel_rfl) ?_)
      | (refine wpList_store_blk rfl 38 38 _ _ rfl 8 (fun w => by kernel_rfl) (w.heap.size + 1) _ #[.string ⟨#[]⟩, .int .i64 0, .int .i64 0, .int .i64 0, .int .i64 0, .slice none 0 0, .slice none 0 0, .slice none 0 0] rfl rfl B2.out rfl rfl (by simp [Value.oneCell']) fun w5 h5 g5 => ?_
         have D3 := B3.out.wrote g5 (by simp)
         have D4 := below_wrote B4.out g5 (by simp))
      | (refine wpList_store_blk rfl 53 53 _ _ rfl 2 (fun w => by kernel_rfl) (w.heap.size + 1 + 1) _ #[.slice none 0 0, .slice none 0 0] rfl rfl D3 rfl rfl (by simp [Value.oneCell']) fun w6 h6 g6 => ?_
         have E2 := h5.wrote g6 (by simp)
         have E4 := below_wrote D4 g6 (by simp; omega)))
    change bodyPost Tryz.prog Tryz.f47 _ _ _ _
    refine bodyPost_ret (v := .tuple #[.agg #[.string ⟨#[]⟩, .int .i64 0, .int .i64 0, .int .i64 0, .int .i64 0, .slice none 0 0, .slice none 0 0, .slice none 0 0], .agg #[.slice none 0 0, .slice none 0 0], .int .i64 2]) ?_ rfl ⟨rfl, E4⟩
    have l1 := run_loadVar_blk (P := Tryz.prog) E2 38 Tryz.underlying38 rfl (by kernel_rfl)
    have l2 := run_loadVar_blk (P := Tryz.prog) h6 53 Tryz.underlying53 rfl (by kernel_rfl)
    exact results_cct Tryz.results47 rfl rfl l1 l2 rfl
set_option maxRecDepth 100000 in
set_option maxHeartbeats 2000000 in
theorem r_Hear4 (z : Int) (hz : 1 ≤ z ∧ z ≤ 65535) (w : World) :
    Calls Tryz.prog 47 #[.agg (refA (.slice none 0 0)), .int .i64 4, .int .i64 z] w fun e w' => e = .returned (.tuple #[.agg (refA (.slice none 0 0)), didA (.slice none 0 0), .int .i64 0]) ∧ Below w.heap.size w w' := by
  have CE := hid (r_send none 0 0)
  have CD := hid (r_done none 0 0)
  have CS := hid (r_Session none 0 0)
  have CF := hid (r_find z)
  have d1 : decide (z < 1) = false := decide_eq_false (by omega)
  have d2 : decide (65535 < z) = false := decide_eq_false (by omega)
  unfold refA rowZ didA at *
  go_enter Tryz.func47, Tryz.ntmps47
  go_wp2_with fail
  obtain ⟨W, hW⟩ : ∃ W, W = (((w.alloc (.cells #[.string ⟨#[]⟩, .int .i64 0, .int .i64 0, .int .i64 0, .int .i64 0, .slice none 0 0, .slice none 0 0, .slice none 0 0] 38)).alloc (.cells #[.string ⟨#[]⟩, .int .i64 0, .int .i64 0, .int .i64 0, .int .i64 0, .slice none 0 0, .slice none 0 0, .slice none 0 0] 38)).alloc (.cells #[.slice none 0 0, .slice none 0 0] 53)) := ⟨_, rfl⟩
  have B0 : Blk W w.heap.size zA 38 := by rw [hW]; exact ((Blk.new w _ _).alloc _).alloc _
  have B2 : Blk W (w.heap.size + 1) zA 38 := by rw [hW]; exact (Blk.new_at _ _ _ _ (by simp)).alloc _
  have B3 : Blk W (w.heap.size + 1 + 1) #[.slice none 0 0, .slice none 0 0] 53 := by rw [hW]; exact Blk.new_at _ _ _ _ (by simp)
  have B4 : Below w.heap.size w W := by
    rw [hW]
    repeat (first | exact Below.refl _ _ | (refine Below.setCell ?_ (by simp <;> omega) _) | (refine Below.alloc ?_ (by simp <;> omega) _) | refine Below.drew ?_)
  rw [← hW]
  clear hW
  refine (CS.out _).mono ?_
  rintro e w1 ⟨rfl, hb1⟩
  replace B4 := B4.trans (hb1.mono B4.size)
  replace B0 := B0.below hb1
  replace B2 := B2.below hb1
  replace B3 := B3.below hb1
  clear hb1 W
  obtain ⟨W, hW⟩ : ∃ W, W = w1 := ⟨_, rfl⟩
  subst hW
  have lt0 : w.heap.size < W.heap.size := B0.lt
  have b2 : w.heap.size + 1 < W.heap.size := B2.lt
  have b3 : w.heap.size + 1 + 1 < W.heap.size := B3.lt
  go_wp2_with (first
    | (refine wpList_store_blk rfl 33 33 _ _ rfl 9 (fun w => by kernel_rfl) W.heap.size _ #[.int .i64 1, .string ⟨#[]⟩, .int .i64 0, .int .i64 0, .string ⟨#[]⟩, .string ⟨#[]⟩, .int .i64 0, .bool false, .int .i64 0] rfl rfl (Blk.new W _ _) rfl rfl (by simp [Value.oneCell']) fun w2 hb2 hw2 => ?_
       have C1 := hb2
       have C0 := (B0.alloc _).wrote hw2 (by simp; omega)
       have C2 := (B2.alloc _).wrote hw2 (by simp; omega)
       have C3 := (B3.alloc _).wrote hw2 (by simp; omega)
       have C4 := below_wrote (B4.alloc B4.size _) hw2 (by simp; omega)
       clear hw2 hb2)
    | (refine wpList_load_blk rfl 38 _ rfl w.heap.size #[.string ⟨#[]⟩, .int .i64 0, .int .i64 0, .int .i64 0, .int .i64 0, .slice none 0 0, .slice none 0 0, .slice none 0 0] rfl C0 Tryz.underlying38 rfl (by kernel_rfl) ?_))
  refine (CF.out _).mono ?_
  rintro e w3 ⟨rfl, hb3⟩
  replace C4 := C4.trans (hb3.mono C4.size)
  replace C0 := C0.below hb3
  replace C1 := C1.below hb3
  replace C2 := C2.below hb3
  replace C3 := C3.below hb3
  clear hb3
  have RO := World.ownsRow_nil w3 w.heap.size 81 24
  go_wp2
  refine regionQ [(8, fun w' => Blk w' w.heap.size #[.string ⟨#[]⟩, .int .i64 0, .int .i64 0, .int .i64 0, .int .i64 0, .slice none 0 0, (.slice none 0 0), .slice none 0 0] 38), (1000, fun w' => Blk w' W.heap.size #[.int .i64 1, .string ⟨#[]⟩, .int .i64 0, .int .i64 0, .string ⟨#[]⟩, .string ⟨#[]⟩, .int .i64 0, .bool false, .int .i64 0] 33)] (by kernel_rfl) ⟨C0, C1, trivial⟩ fun KQ hKQ => ?_
  refine loadQ 0 rfl (by kernel_rfl) (by kernel_rfl) rfl rfl 0 rfl (by kernel_rfl) _ (fun w' hf => run_load_blk hf 38 Tryz.underlying38 rfl (by kernel_rfl)) ?_
  simp only [Act.put, List.getElem_toArray, List.getElem_cons_zero, List.getElem_cons_succ, List.setIfInBounds_toArray, List.set_cons_zero, List.set_cons_succ]
  refine loadQ 2 rfl (by kernel_rfl) (by kernel_rfl) rfl rfl 1 rfl (by kernel_rfl) _ (fun w' hf => run_load_blk hf 33 Tryz.underlying33 rfl (by kernel_rfl)) ?_
  simp only [Act.put, List.getElem_toArray, List.getElem_cons_zero, List.getElem_cons_succ, List.setIfInBounds_toArray, List.set_cons_zero, List.set_cons_succ]
  refine stepQ2 1 7 rfl rfl (by kernel_rfl) (by decide) (by kernel_rfl) (by kernel_rfl) (fun K hK => ?_) (fun K hK => ?_)
  · go_simp
    refine (CE.out _).mono ?_
    rintro e w4 ⟨rfl, hb9⟩
    replace C4 := C4.drew.trans (hb9.mono C4.drew.size)
    replace C0 := C0.drew.below hb9
    replace C1 := C1.drew.below hb9
    replace C2 := C2.drew.below hb9
    replace C3 := C3.drew.below hb9
    replace RO := ownsRow_below RO.drew hb9
    refine hK _ _ ⟨⟨fun _ => C0, fun _ => C1, trivial⟩, ?_⟩
    clear hK K
    refine stepQ2 3 7 rfl rfl (by kernel_rfl) (by decide) (by kernel_rfl) (by kernel_rfl) (fun K hK => ?_) (fun K hK => ?_)
    · go_simp
      refine (CD.out _).mono ?_
      rintro e w5 ⟨rfl, hb9⟩
      replace C4 := C4.trans (hb9.mono C4.size)
      replace C0 := C0.below hb9
      replace C1 := C1.below hb9
      replace C2 := C2.below hb9
      replace C3 := C3.below hb9
      replace RO := ownsRow_below RO hb9
      refine hK _ _ ⟨⟨fun _ => C0, fun _ => C1, trivial⟩, ?_⟩
      clear hK K
      refine takeQ 4 rfl (by kernel_rfl) rfl (by kernel_rfl) fun K hK => ?_
      simp only [List.getElem_toArray, List.getElem_cons_zero, List.getElem_cons_succ]
      go_big_quiet_op
      refine hK _ ?_
      clear hK K
      refine takeQ 5 rfl (by kernel_rfl) rfl (by kernel_rfl) fun K hK => ?_
      simp only [List.getElem_toArray, List.getElem_cons_zero, List.getElem_cons_succ]
      go_big_quiet_op
      refine hK _ ?_
      clear hK K
      refine takeQ 6 rfl (by kernel_rfl) rfl (by kernel_rfl) fun K hK => ?_
      simp only [List.getElem_toArray, List.getElem_cons_zero, List.getElem_cons_succ]
      go_big_quiet_op
      refine hK _ ?_
      clear hK K
      refine stepQ 7 rfl (by kernel_rfl) (by decide) (by kernel_rfl) fun K hK => ?_
      simp only [List.getElem_toArray, List.getElem_cons_zero, List.getElem_cons_succ]
      go_simp
      have C5 := Blk.new_at w5 #[.slice none 0 0, .slice none 0 0] 53 w5.heap.size rfl
      have n0 : w.heap.size < w5.heap.size := C0.lt
      have n1 : W.heap.size < w5.heap.size := C1.lt
      have n2 : w.heap.size + 1 < w5.heap.size := C2.lt
      have n3 : w.heap.size + 1 + 1 < w5.heap.size := C3.lt
      replace C4 := C4.alloc C4.size (.cells #[.slice none 0 0, .slice none 0 0] 53)
      replace C0 := C0.alloc (.cells #[.slice none 0 0, .slice none 0 0] 53)
      replace C1 := C1.alloc (.cells #[.slice none 0 0, .slice none 0 0] 53)
      replace C2 := C2.alloc (.cells #[.slice none 0 0, .slice none 0 0] 53)
      replace RO := RO.alloc (.cells #[.slice none 0 0, .slice none 0 0] 53)
      replace C3 := C3.alloc (.cells #[.slice none 0 0, .slice none 0 0] 53)
      refine hK _ _ ⟨⟨fun _ => C0, fun _ => C1, trivial⟩, ?_⟩
      clear hK K
      refine stepQ 8 rfl (by kernel_rfl) (by decide) (by kernel_rfl) fun K hK => ?_
      simp only [List.getElem_toArray, List.getElem_cons_zero, List.getElem_cons_succ]
      refine wp_store_whole 38 38 _ _ rfl 8 (fun w => by kernel_rfl) w.heap.size _ #[.string ⟨#[]⟩, .int .i64 0, .int .i64 0, .int .i64 0, .int .i64 0, .slice none 0 0, .slice none 0 0, .slice none 0 0] rfl rfl C0 rfl rfl (by simp [Value.oneCell']) fun w6 h6 g6 => ?_
      have D1 := C1.wrote g6 (by simp; omega)
      have D2 := C2.wrote g6 (by simp)
      have D3 := C3.wrote g6 (by simp; omega)
      have D5 := C5.wrote g6 (by simp; omega)
      have D4 := below_wrote C4 g6 (by simp)
      replace RO := not_own RO g6 (fun x hx hb => by simp at hx; subst hx; exact block_not_row C0 (by decide) RO (mem_blk.1 hb).symm)
      refine hK _ _ ⟨⟨fun h => (by simp at h), fun _ => D1, trivial⟩, ?_⟩
      clear hK K
      refine stepQ 9 rfl (by kernel_rfl) (by decide) (by kernel_rfl) fun K hK => ?_
      simp only [List.getElem_toArray, List.getElem_cons_zero, List.getElem_cons_succ]
      refine wp_store_whole 53 53 _ _ rfl 2 (fun w => by kernel_rfl) w5.heap.size _ #[(.slice none 0 0), .slice none 0 0] rfl rfl D5 rfl rfl (by simp [Value.oneCell']) fun w7 h7 g7 => ?_
      have E0 := h6.wrote g7 (by simp; omega)
      have E1 := D1.wrote g7 (by simp; omega)
      have E2 := D2.wrote g7 (by simp; omega)
      have E3 := D3.wrote g7 (by simp; omega)
      have E4 := below_wrote D4 g7 (by simp; omega)
      replace RO := not_own RO g7 (fun x hx hb => by simp at hx; subst hx; exact block_not_row D5 (by decide) RO (mem_blk.1 hb).symm)
      refine hK _ _ ⟨⟨fun h => (by simp at h), fun _ => E1, trivial⟩, ?_⟩
      clear hK K
      refine doneQ (by kernel_rfl) (hKQ.out _ _ ?_)
      clear hKQ KQ
      clear C0 C1 C2 C3 C4 C5 D1 D2 D3 D4 D5 g6 g7 h6
      go_wp2_with fail
      refine regionQ [(1000, fun w' => Blk w' w.heap.size #[.string ⟨#[]⟩, .int .i64 0, .int .i64 0, .int .i64 0, .int .i64 0, .slice none 0 0, .slice none 0 0, .slice none 0 0] 38), (1000, fun w' => Blk w' (w5.heap.size) #[(.slice none 0 0), .slice none 0 0] 53)] (by kernel_rfl) ⟨E0, h7, trivial⟩ fun KQ hKQ => ?_
      refine loadQ 0 rfl (by kernel_rfl) (by kernel_rfl) rfl rfl 0 rfl (by kernel_rfl) _ (fun w' hf => run_load_blk hf 38 Tryz.underlying38 rfl (by kernel_rfl)) ?_
      simp only [Act.put, List.getElem_toArray, List.getElem_cons_zero, List.getElem_cons_succ, List.setIfInBounds_toArray, List.set_cons_zero, List.set_cons_succ]
      refine loadQ 1 rfl (by kernel_rfl) (by kernel_rfl) rfl rfl 1 rfl (by kernel_rfl) _ (fun w' hf => run_load_blk hf 53 Tryz.underlying53 rfl (by kernel_rfl)) ?_
      simp only [Act.put, List.getElem_toArray, List.getElem_cons_zero, List.getElem_cons_succ, List.setIfInBounds_toArray, List.set_cons_zero, List.set_cons_succ]
      refine stepQ 2 rfl (by kernel_rfl) (by decide) (by kernel_rfl) fun K hK => ?_
      simp only [List.getElem_toArray, List.getElem_cons_zero, List.getElem_cons_succ]
      refine wp_store_whole 38 38 _ _ rfl 8 (fun w => by kernel_rfl) (w.heap.size + 1) _ #[.string ⟨#[]⟩, .int .i64 0, .int .i64 0, .int .i64 0, .int .i64 0, .slice none 0 0, .slice none 0 0, .slice none 0 0] rfl rfl E2.drew rfl rfl (by simp [Value.oneCell']) fun w8 h8 g8 => ?_
      have F0 := E0.drew.wrote g8 (by simp)
      have F5 := h7.drew.wrote g8 (by simp; omega)
      have F3 := E3.drew.wrote g8 (by simp)
      have F4 := below_wrote E4.drew g8 (by simp)
      replace RO := not_own RO.drew g8 (fun x hx hb => by simp at hx; subst hx; exact block_not_row E2 (by decide) RO (mem_blk.1 hb).symm)
      refine hK _ _ ⟨⟨fun _ => F0, fun _ => F5, trivial⟩, ?_⟩
      clear hK K
      refine stepQ 3 rfl (by kernel_rfl) (by decide) (by kernel_rfl) fun K hK => ?_
      simp only [List.getElem_toArray, List.getElem_cons_zero, List.getElem_cons_succ]
      refine wp_store_whole 53 53 _ _ rfl 2 (fun w => by kernel_rfl) (w.heap.size + 1 + 1) _ #[(.slice none 0 0), .slice none 0 0] rfl rfl F3 rfl rfl (by simp [Value.oneCell']) fun w9 h9 g9 => ?_
      have G0 := F0.wrote g9 (by simp; omega)
      have G5 := F5.wrote g9 (by simp; omega)
      have G2 := h8.wrote g9 (by simp)
      have G4 := below_wrote F4 g9 (by simp; omega)
      replace RO := not_own RO g9 (fun x hx hb => by simp at hx; subst hx; exact block_not_row F3 (by decide) RO (mem_blk.1 hb).symm)
      refine hK _ _ ⟨⟨fun _ => G0, fun _ => G5, trivial⟩, ?_⟩
      clear hK K
      try simp only [Act.put, List.getElem_toArray, List.getElem_cons_zero, List.getElem_cons_succ, List.setIfInBounds_toArray, List.set_cons_zero, List.set_cons_succ]
      refine takeQ 4 rfl (by kernel_rfl) rfl (by kernel_rfl) fun K hK => ?_
      simp only [List.getElem_toArray, List.getElem_cons_zero, List.getElem_cons_succ]
      go_big_quiet_op
      refine hK _ ?_
      clear hK K
      refine doneQ (by kernel_rfl) (hKQ.out _ _ ?_)
      clear hKQ KQ
      go_wp2
      change bodyPost Tryz.prog Tryz.f47 _ _ _ _
      refine bodyPost_ret (v := .tuple #[.agg #[.string ⟨#[]⟩, .int .i64 0, .int .i64 0, .int .i64 0, .int .i64 0, .slice none 0 0, .slice none 0 0, .slice none 0 0], .agg #[(.slice none 0 0), .slice none 0 0], .int .i64 0]) ?_ rfl ?_
      · have l1 := run_loadVar_blk (P := Tryz.prog) G2 38 Tryz.underlying38 rfl (by kernel_rfl)
        have l2 := run_loadVar_blk (P := Tryz.prog) h9 53 Tryz.underlying53 rfl (by kernel_rfl)
        exact results_cct Tryz.results47 rfl rfl l1 l2 rfl
      · exact ⟨rfl, G4⟩
    · go_simp
      have C5 := Blk.new_at w4 #[.slice none 0 0, .slice none 0 0] 53 w4.heap.size rfl
      have n0 : w.heap.size < w4.heap.size := C0.lt
      have n1 : W.heap.size < w4.heap.size := C1.lt
      have n2 : w.heap.size + 1 < w4.heap.size := C2.lt
      have n3 : w.heap.size + 1 + 1 < w4.heap.size := C3.lt
      replace C4 := C4.alloc C4.size (.cells #[.slice none 0 0, .slice none 0 0] 53)
      replace C0 := C0.alloc (.cells #[.slice none 0 0, .slice none 0 0] 53)
      replace C1 := C1.alloc (.cells #[.slice none 0 0, .slice none 0 0] 53)
      replace C2 := C2.alloc (.cells #[.slice none 0 0, .slice none 0 0] 53)
      replace RO := RO.alloc (.cells #[.slice none 0 0, .slice none 0 0] 53)
      replace C3 := C3.alloc (.cells #[.slice none 0 0, .slice none 0 0] 53)
      refine hK _ _ ⟨⟨fun _ => C0, fun _ => C1, trivial⟩, ?_⟩
      clear hK K
      refine stepQ 3 rfl (by kernel_rfl) (by decide) (by kernel_rfl) fun K hK => ?_
      simp only [List.getElem_toArray, List.getElem_cons_zero, List.getElem_cons_succ]
      go_simp
      refine (CD.out _).mono ?_
      rintro e w5 ⟨rfl, hb9⟩
      replace C4 := C4.trans (hb9.mono C4.size)
      replace C0 := C0.below hb9
      replace C1 := C1.below hb9
      replace C2 := C2.below hb9
      replace C3 := C3.below hb9
      replace RO := ownsRow_below RO hb9
      refine hK _ _ ⟨⟨fun _ => C0, fun _ => C1, trivial⟩, ?_⟩
      clear hK K
      have C5 := C5.below hb9
      clear hb9
      refine takeQ 4 rfl (by kernel_rfl) rfl (by kernel_rfl) fun K hK => ?_
      simp only [List.getElem_toArray, List.getElem_cons_zero, List.getElem_cons_succ]
      go_big_quiet_op
      refine hK _ ?_
      clear hK K
      refine takeQ 5 rfl (by kernel_rfl) rfl (by kernel_rfl) fun K hK => ?_
      simp only [List.getElem_toArray, List.getElem_cons_zero, List.getElem_cons_succ]
      go_big_quiet_op
      refine hK _ ?_
      clear hK K
      refine takeQ 6 rfl (by kernel_rfl) rfl (by kernel_rfl) fun K hK => ?_
      simp only [List.getElem_toArray, List.getElem_cons_zero, List.getElem_cons_succ]
      go_big_quiet_op
      refine hK _ ?_
      clear hK K
      refine stepQ 8 rfl (by kernel_rfl) (by decide) (by kernel_rfl) fun K hK => ?_
      simp only [List.getElem_toArray, List.getElem_cons_zero, List.getElem_cons_succ]
      refine wp_store_whole 38 38 _ _ rfl 8 (fun w => by kernel_rfl) w.heap.size _ #[.string ⟨#[]⟩, .int .i64 0, .int .i64 0, .int .i64 0, .int .i64 0, .slice none 0 0, .slice none 0 0, .slice none 0 0] rfl rfl C0 rfl rfl (by simp [Value.oneCell']) fun w6 h6 g6 => ?_
      have D1 := C1.wrote g6 (by simp; omega)
      have D2 := C2.wrote g6 (by simp)
      have D3 := C3.wrote g6 (by simp; omega)
      have D5 := C5.wrote g6 (by simp; omega)
      have D4 := below_wrote C4 g6 (by simp)
      replace RO := not_own RO g6 (fun x hx hb => by simp at hx; subst hx; exact block_not_row C0 (by decide) RO (mem_blk.1 hb).symm)
      refine hK _ _ ⟨⟨fun h => (by simp at h), fun _ => D1, trivial⟩, ?_⟩
      clear hK K
      refine stepQ 9 rfl (by kernel_rfl) (by decide) (by kernel_rfl) fun K hK => ?_
      simp only [List.getElem_toArray, List.getElem_cons_zero, List.getElem_cons_succ]
      refine wp_store_whole 53 53 _ _ rfl 2 (fun w => by kernel_rfl) w4.heap.size _ #[(.slice none 0 0), .slice none 0 0] rfl rfl D5 rfl rfl (by simp [Value.oneCell']) fun w7 h7 g7 => ?_
      have E0 := h6.wrote g7 (by simp; omega)
      have E1 := D1.wrote g7 (by simp; omega)
      have E2 := D2.wrote g7 (by simp; omega)
      have E3 := D3.wrote g7 (by simp; omega)
      have E4 := below_wrote D4 g7 (by simp; omega)
      replace RO := not_own RO g7 (fun x hx hb => by simp at hx; subst hx; exact block_not_row D5 (by decide) RO (mem_blk.1 hb).symm)
      refine hK _ _ ⟨⟨fun h => (by simp at h), fun _ => E1, trivial⟩, ?_⟩
      clear hK K
      refine doneQ (by kernel_rfl) (hKQ.out _ _ ?_)
      clear hKQ KQ
      clear C0 C1 C2 C3 C4 C5 D1 D2 D3 D4 D5 g6 g7 h6
      go_wp2_with fail
      refine regionQ [(1000, fun w' => Blk w' w.heap.size #[.string ⟨#[]⟩, .int .i64 0, .int .i64 0, .int .i64 0, .int .i64 0, .slice none 0 0, .slice none 0 0, .slice none 0 0] 38), (1000, fun w' => Blk w' (w4.heap.size) #[(.slice none 0 0), .slice none 0 0] 53)] (by kernel_rfl) ⟨E0, h7, trivial⟩ fun KQ hKQ => ?_
      refine loadQ 0 rfl (by kernel_rfl) (by kernel_rfl) rfl rfl 0 rfl (by kernel_rfl) _ (fun w' hf => run_load_blk hf 38 Tryz.underlying38 rfl (by kernel_rfl)) ?_
      simp only [Act.put, List.getElem_toArray, List.getElem_cons_zero, List.getElem_cons_succ, List.setIfInBounds_toArray, List.set_cons_zero, List.set_cons_succ]
      refine loadQ 1 rfl (by kernel_rfl) (by kernel_rfl) rfl rfl 1 rfl (by kernel_rfl) _ (fun w' hf => run_load_blk hf 53 Tryz.underlying53 rfl (by kernel_rfl)) ?_
      simp only [Act.put, List.getElem_toArray, List.getElem_cons_zero, List.getElem_cons_succ, List.setIfInBounds_toArray, List.set_cons_zero, List.set_cons_succ]
      refine stepQ 2 rfl (by kernel_rfl) (by decide) (by kernel_rfl) fun K hK => ?_
      simp only [List.getElem_toArray, List.getElem_cons_zero, List.getElem_cons_succ]
      refine wp_store_whole 38 38 _ _ rfl 8 (fun w => by kernel_rfl) (w.heap.size + 1) _ #[.string ⟨#[]⟩, .int .i64 0, .int .i64 0, .int .i64 0, .int .i64 0, .slice none 0 0, .slice none 0 0, .slice none 0 0] rfl rfl E2.drew rfl rfl (by simp [Value.oneCell']) fun w8 h8 g8 => ?_
      have F0 := E0.drew.wrote g8 (by simp)
      have F5 := h7.drew.wrote g8 (by simp; omega)
      have F3 := E3.drew.wrote g8 (by simp)
      have F4 := below_wrote E4.drew g8 (by simp)
      replace RO := not_own RO.drew g8 (fun x hx hb => by simp at hx; subst hx; exact block_not_row E2 (by decide) RO (mem_blk.1 hb).symm)
      refine hK _ _ ⟨⟨fun _ => F0, fun _ => F5, trivial⟩, ?_⟩
      clear hK K
      refine stepQ 3 rfl (by kernel_rfl) (by decide) (by kernel_rfl) fun K hK => ?_
      simp only [List.getElem_toArray, List.getElem_cons_zero, List.getElem_cons_succ]
      refine wp_store_whole 53 53 _ _ rfl 2 (fun w => by kernel_rfl) (w.heap.size + 1 + 1) _ #[(.slice none 0 0), .slice none 0 0] rfl rfl F3 rfl rfl (by simp [Value.oneCell']) fun w9 h9 g9 => ?_
      have G0 := F0.wrote g9 (by simp; omega)
      have G5 := F5.wrote g9 (by simp; omega)
      have G2 := h8.wrote g9 (by simp)
      have G4 := below_wrote F4 g9 (by simp; omega)
      replace RO := not_own RO g9 (fun x hx hb => by simp at hx; subst hx; exact block_not_row F3 (by decide) RO (mem_blk.1 hb).symm)
      refine hK _ _ ⟨⟨fun _ => G0, fun _ => G5, trivial⟩, ?_⟩
      clear hK K
      try simp only [Act.put, List.getElem_toArray, List.getElem_cons_zero, List.getElem_cons_succ, List.setIfInBounds_toArray, List.set_cons_zero, List.set_cons_succ]
      refine takeQ 4 rfl (by kernel_rfl) rfl (by kernel_rfl) fun K hK => ?_
      simp only [List.getElem_toArray, List.getElem_cons_zero, List.getElem_cons_succ]
      go_big_quiet_op
      refine hK _ ?_
      clear hK K
      refine doneQ (by kernel_rfl) (hKQ.out _ _ ?_)
      clear hKQ KQ
      go_wp2
      change bodyPost Tryz.prog Tryz.f47 _ _ _ _
      refine bodyPost_ret (v := .tuple #[.agg #[.string ⟨#[]⟩, .int .i64 0, .int .i64 0, .int .i64 0, .int .i64 0, .slice none 0 0, .slice none 0 0, .slice none 0 0], .agg #[(.slice none 0 0), .slice none 0 0], .int .i64 0]) ?_ rfl ?_
      · have l1 := run_loadVar_blk (P := Tryz.prog) G2 38 Tryz.underlying38 rfl (by kernel_rfl)
        have l2 := run_loadVar_blk (P := Tryz.prog) h9 53 Tryz.underlying53 rfl (by kernel_rfl)
        exact results_cct Tryz.results47 rfl rfl l1 l2 rfl
      · exact ⟨rfl, G4⟩
  · go_simp
    have C5 := Blk.new_at w3.drew #[.slice none 0 0, .slice none 0 0] 53 w3.heap.size rfl
    have n0 : w.heap.size < w3.heap.size := C0.lt
    have n1 : W.heap.size < w3.heap.size := C1.lt
    have n2 : w.heap.size + 1 < w3.heap.size := C2.lt
    have n3 : w.heap.size + 1 + 1 < w3.heap.size := C3.lt
    replace C4 := C4.drew.alloc C4.drew.size (.cells #[.slice none 0 0, .slice none 0 0] 53)
    replace C0 := C0.drew.alloc (.cells #[.slice none 0 0, .slice none 0 0] 53)
    replace C1 := C1.drew.alloc (.cells #[.slice none 0 0, .slice none 0 0] 53)
    replace C2 := C2.drew.alloc (.cells #[.slice none 0 0, .slice none 0 0] 53)
    replace RO := RO.drew.alloc (.cells #[.slice none 0 0, .slice none 0 0] 53)
    replace C3 := C3.drew.alloc (.cells #[.slice none 0 0, .slice none 0 0] 53)
    refine hK _ _ ⟨⟨fun _ => C0, fun _ => C1, trivial⟩, ?_⟩
    clear hK K
    refine stepQ 1 rfl (by kernel_rfl) (by decide) (by kernel_rfl) fun K hK => ?_
    simp only [List.getElem_toArray, List.getElem_cons_zero, List.getElem_cons_succ]
    go_simp
    refine (CE.out _).mono ?_
    rintro e w4 ⟨rfl, hb9⟩
    replace C4 := C4.trans (hb9.mono C4.size)
    replace C0 := C0.below hb9
    replace C1 := C1.below hb9
    replace C2 := C2.below hb9
    replace C3 := C3.below hb9
    replace RO := ownsRow_below RO hb9
    refine hK _ _ ⟨⟨fun _ => C0, fun _ => C1, trivial⟩, ?_⟩
    clear hK K
    have C5 := C5.below hb9
    clear hb9
    refine stepQ 3 rfl (by kernel_rfl) (by decide) (by kernel_rfl) fun K hK => ?_
    simp only [List.getElem_toArray, List.getElem_cons_zero, List.getElem_cons_succ]
    go_simp
    refine (CD.out _).mono ?_
    rintro e w5 ⟨rfl, hb9⟩
    replace C4 := C4.trans (hb9.mono C4.size)
    replace C0 := C0.below hb9
    replace C1 := C1.below hb9
    replace C2 := C2.below hb9
    replace C3 := C3.below hb9
    replace RO := ownsRow_below RO hb9
    refine hK _ _ ⟨⟨fun _ => C0, fun _ => C1, trivial⟩, ?_⟩
    clear hK K
    have C5 := C5.below hb9
    clear hb9
    refine takeQ 4 rfl (by kernel_rfl) rfl (by kernel_rfl) fun K hK => ?_
    simp only [List.getElem_toArray, List.getElem_cons_zero, List.getElem_cons_succ]
    go_big_quiet_op
    refine hK _ ?_
    clear hK K
    refine takeQ 5 rfl (by kernel_rfl) rfl (by kernel_rfl) fun K hK => ?_
    simp only [List.getElem_toArray, List.getElem_cons_zero, List.getElem_cons_succ]
    go_big_quiet_op
    refine hK _ ?_
    clear hK K
    refine takeQ 6 rfl (by kernel_rfl) rfl (by kernel_rfl) fun K hK => ?_
    simp only [List.getElem_toArray, List.getElem_cons_zero, List.getElem_cons_succ]
    go_big_quiet_op
    refine hK _ ?_
    clear hK K
    refine stepQ 8 rfl (by kernel_rfl) (by decide) (by kernel_rfl) fun K hK => ?_
    simp only [List.getElem_toArray, List.getElem_cons_zero, List.getElem_cons_succ]
    refine wp_store_whole 38 38 _ _ rfl 8 (fun w => by kernel_rfl) w.heap.size _ #[.string ⟨#[]⟩, .int .i64 0, .int .i64 0, .int .i64 0, .int .i64 0, .slice none 0 0, .slice none 0 0, .slice none 0 0] rfl rfl C0 rfl rfl (by simp [Value.oneCell']) fun w6 h6 g6 => ?_
    have D1 := C1.wrote g6 (by simp; omega)
    have D2 := C2.wrote g6 (by simp)
    have D3 := C3.wrote g6 (by simp; omega)
    have D5 := C5.wrote g6 (by simp; omega)
    have D4 := below_wrote C4 g6 (by simp)
    replace RO := not_own RO g6 (fun x hx hb => by simp at hx; subst hx; exact block_not_row C0 (by decide) RO (mem_blk.1 hb).symm)
    refine hK _ _ ⟨⟨fun h => (by simp at h), fun _ => D1, trivial⟩, ?_⟩
    clear hK K
    refine stepQ 9 rfl (by kernel_rfl) (by decide) (by kernel_rfl) fun K hK => ?_
    simp only [List.getElem_toArray, List.getElem_cons_zero, List.getElem_cons_succ]
    refine wp_store_whole 53 53 _ _ rfl 2 (fun w => by kernel_rfl) w3.heap.size _ #[(.slice none 0 0), .slice none 0 0] rfl rfl D5 rfl rfl (by simp [Value.oneCell']) fun w7 h7 g7 => ?_
    have E0 := h6.wrote g7 (by simp; omega)
    have E1 := D1.wrote g7 (by simp; omega)
    have E2 := D2.wrote g7 (by simp; omega)
    have E3 := D3.wrote g7 (by simp; omega)
    have E4 := below_wrote D4 g7 (by simp; omega)
    replace RO := not_own RO g7 (fun x hx hb => by simp at hx; subst hx; exact block_not_row D5 (by decide) RO (mem_blk.1 hb).symm)
    refine hK _ _ ⟨⟨fun h => (by simp at h), fun _ => E1, trivial⟩, ?_⟩
    clear hK K
    refine doneQ (by kernel_rfl) (hKQ.out _ _ ?_)
    clear hKQ KQ
    clear C0 C1 C2 C3 C4 C5 D1 D2 D3 D4 D5 g6 g7 h6
    go_wp2_with fail
    refine regionQ [(1000, fun w' => Blk w' w.heap.size #[.string ⟨#[]⟩, .int .i64 0, .int .i64 0, .int .i64 0, .int .i64 0, .slice none 0 0, .slice none 0 0, .slice none 0 0] 38), (1000, fun w' => Blk w' (w3.heap.size) #[(.slice none 0 0), .slice none 0 0] 53)] (by kernel_rfl) ⟨E0, h7, trivial⟩ fun KQ hKQ => ?_
    refine loadQ 0 rfl (by kernel_rfl) (by kernel_rfl) rfl rfl 0 rfl (by kernel_rfl) _ (fun w' hf => run_load_blk hf 38 Tryz.underlying38 rfl (by kernel_rfl)) ?_
    simp only [Act.put, List.getElem_toArray, List.getElem_cons_zero, List.getElem_cons_succ, List.setIfInBounds_toArray, List.set_cons_zero, List.set_cons_succ]
    refine loadQ 1 rfl (by kernel_rfl) (by kernel_rfl) rfl rfl 1 rfl (by kernel_rfl) _ (fun w' hf => run_load_blk hf 53 Tryz.underlying53 rfl (by kernel_rfl)) ?_
    simp only [Act.put, List.getElem_toArray, List.getElem_cons_zero, List.getElem_cons_succ, List.setIfInBounds_toArray, List.set_cons_zero, List.set_cons_succ]
    refine stepQ 2 rfl (by kernel_rfl) (by decide) (by kernel_rfl) fun K hK => ?_
    simp only [List.getElem_toArray, List.getElem_cons_zero, List.getElem_cons_succ]
    refine wp_store_whole 38 38 _ _ rfl 8 (fun w => by kernel_rfl) (w.heap.size + 1) _ #[.string ⟨#[]⟩, .int .i64 0, .int .i64 0, .int .i64 0, .int .i64 0, .slice none 0 0, .slice none 0 0, .slice none 0 0] rfl rfl E2.drew rfl rfl (by simp [Value.oneCell']) fun w8 h8 g8 => ?_
    have F0 := E0.drew.wrote g8 (by simp)
    have F5 := h7.drew.wrote g8 (by simp; omega)
    have F3 := E3.drew.wrote g8 (by simp)
    have F4 := below_wrote E4.drew g8 (by simp)
    replace RO := not_own RO.drew g8 (fun x hx hb => by simp at hx; subst hx; exact block_not_row E2 (by decide) RO (mem_blk.1 hb).symm)
    refine hK _ _ ⟨⟨fun _ => F0, fun _ => F5, trivial⟩, ?_⟩
    clear hK K
    refine stepQ 3 rfl (by kernel_rfl) (by decide) (by kernel_rfl) fun K hK => ?_
    simp only [List.getElem_toArray, List.getElem_cons_zero, List.getElem_cons_succ]
    refine wp_store_whole 53 53 _ _ rfl 2 (fun w => by kernel_rfl) (w.heap.size + 1 + 1) _ #[(.slice none 0 0), .slice none 0 0] rfl rfl F3 rfl rfl (by simp [Value.oneCell']) fun w9 h9 g9 => ?_
    have G0 := F0.wrote g9 (by simp; omega)
    have G5 := F5.wrote g9 (by simp; omega)
    have G2 := h8.wrote g9 (by simp)
    have G4 := below_wrote F4 g9 (by simp; omega)
    replace RO := not_own RO g9 (fun x hx hb => by simp at hx; subst hx; exact block_not_row F3 (by decide) RO (mem_blk.1 hb).symm)
    refine hK _ _ ⟨⟨fun _ => G0, fun _ => G5, trivial⟩, ?_⟩
    clear hK K
    try simp only [Act.put, List.getElem_toArray, List.getElem_cons_zero, List.getElem_cons_succ, List.setIfInBounds_toArray, List.set_cons_zero, List.set_cons_succ]
    refine takeQ 4 rfl (by kernel_rfl) rfl (by kernel_rfl) fun K hK => ?_
    simp only [List.getElem_toArray, List.getElem_cons_zero, List.getElem_cons_succ]
    go_big_quiet_op
    refine hK _ ?_
    clear hK K
    refine doneQ (by kernel_rfl) (hKQ.out _ _ ?_)
    clear hKQ KQ
    go_wp2
    change bodyPost Tryz.prog Tryz.f47 _ _ _ _
    refine bodyPost_ret (v := .tuple #[.agg #[.string ⟨#[]⟩, .int .i64 0, .int .i64 0, .int .i64 0, .int .i64 0, .slice none 0 0, .slice none 0 0, .slice none 0 0], .agg #[(.slice none 0 0), .slice none 0 0], .int .i64 0]) ?_ rfl ?_
    · have l1 := run_loadVar_blk (P := Tryz.prog) G2 38 Tryz.underlying38 rfl (by kernel_rfl)
      have l2 := run_loadVar_blk (P := Tryz.prog) h9 53 Tryz.underlying53 rfl (by kernel_rfl)
      exact results_cct Tryz.results47 rfl rfl l1 l2 rfl
    · exact ⟨rfl, G4⟩
set_option maxRecDepth 100000 in
set_option maxHeartbeats 2000000 in
theorem r_Hear7 (z : Int) (hz : 1 ≤ z ∧ z ≤ 65535) (w : World) :
    Calls Tryz.prog 47 #[.agg (refA (.slice none 0 0)), .int .i64 7, .int .i64 z] w fun e w' => e = .returned (.tuple #[.agg (refA (.slice none 0 0)), didA (.slice none 0 0), .int .i64 0]) ∧ Below w.heap.size w w' := by
  have CE := hid (r_send none 0 0)
  have CD := hid (r_done none 0 0)
  have CS := hid (r_Session none 0 0)
  have CF := hid (r_find z)
  have d1 : decide (z < 1) = false := decide_eq_false (by omega)
  have d2 : decide (65535 < z) = false := decide_eq_false (by omega)
  unfold refA rowZ didA at *
  go_enter Tryz.func47, Tryz.ntmps47
  go_wp2_with fail
  obtain ⟨W, hW⟩ : ∃ W, W = (((w.alloc (.cells #[.string ⟨#[]⟩, .int .i64 0, .int .i64 0, .int .i64 0, .int .i64 0, .slice none 0 0, .slice none 0 0, .slice none 0 0] 38)).alloc (.cells #[.string ⟨#[]⟩, .int .i64 0, .int .i64 0, .int .i64 0, .int .i64 0, .slice none 0 0, .slice none 0 0, .slice none 0 0] 38)).alloc (.cells #[.slice none 0 0, .slice none 0 0] 53)) := ⟨_, rfl⟩
  have B0 : Blk W w.heap.size zA 38 := by rw [hW]; exact ((Blk.new w _ _).alloc _).alloc _
  have B2 : Blk W (w.heap.size + 1) zA 38 := by rw [hW]; exact (Blk.new_at _ _ _ _ (by simp)).alloc _
  have B3 : Blk W (w.heap.size + 1 + 1) #[.slice none 0 0, .slice none 0 0] 53 := by rw [hW]; exact Blk.new_at _ _ _ _ (by simp)
  have B4 : Below w.heap.size w W := by
    rw [hW]
    repeat (first | exact Below.refl _ _ | (refine Below.setCell ?_ (by simp <;> omega) _) | (refine Below.alloc ?_ (by simp <;> omega) _) | refine Below.drew ?_)
  rw [← hW]
  clear hW
  refine (CS.out _).mono ?_
  rintro e w1 ⟨rfl, hb1⟩
  replace B4 := B4.trans (hb1.mono B4.size)
  replace B0 := B0.below hb1
  replace B2 := B2.below hb1
  replace B3 := B3.below hb1
  clear hb1 W
  obtain ⟨W, hW⟩ : ∃ W, W = w1 := ⟨_, rfl⟩
  subst hW
  have lt0 : w.heap.size < W.heap.size := B0.lt
  have b2 : w.heap.size + 1 < W.heap.size := B2.lt
  have b3 : w.heap.size + 1 + 1 < W.heap.size := B3.lt
  go_wp2_with (first
    | (refine wpList_store_blk rfl 33 33 _ _ rfl 9 (fun w => by kernel_rfl) W.heap.size _ #[.int .i64 1, .string ⟨#[]⟩, .int .i64 0, .int .i64 0, .string ⟨#[]⟩, .string ⟨#[]⟩, .int .i64 0, .bool false, .int .i64 0] rfl rfl (Blk.new W _ _) rfl rfl (by simp [Value.oneCell']) fun w2 hb2 hw2 => ?_
       have C1 := hb2
       have C0 := (B0.alloc _).wrote hw2 (by simp; omega)
       have C2 := (B2.alloc _).wrote hw2 (by simp; omega)
       have C3 := (B3.alloc _).wrote hw2 (by simp; omega)
       have C4 := below_wrote (B4.alloc B4.size _) hw2 (by simp; omega)
       clear hw2 hb2)
    | (refine wpList_load_blk rfl 38 _ rfl w.heap.size #[.string ⟨#[]⟩, .int .i64 0, .int .i64 0, .int .i64 0, .int .i64 0, .slice none 0 0, .slice none 0 0, .slice none 0 0] rfl C0 Tryz.underlying38 rfl (by kernel_rfl) ?_))
  refine (CF.out _).mono ?_
  rintro e w3 ⟨rfl, hb3⟩
  replace C4 := C4.trans (hb3.mono C4.size)
  replace C0 := C0.below hb3
  replace C1 := C1.below hb3
  replace C2 := C2.below hb3
  replace C3 := C3.below hb3
  clear hb3
  have RO := World.ownsRow_nil w3 w.heap.size 81 24
  go_wp2
  refine regionQ [(8, fun w' => Blk w' w.heap.size #[.string ⟨#[]⟩, .int .i64 0, .int .i64 0, .int .i64 0, .int .i64 0, .slice none 0 0, (.slice none 0 0), .slice none 0 0] 38), (1000, fun w' => Blk w' W.heap.size #[.int .i64 1, .string ⟨#[]⟩, .int .i64 0, .int .i64 0, .string ⟨#[]⟩, .string ⟨#[]⟩, .int .i64 0, .bool false, .int .i64 0] 33)] (by kernel_rfl) ⟨C0, C1, trivial⟩ fun KQ hKQ => ?_
  refine loadQ 0 rfl (by kernel_rfl) (by kernel_rfl) rfl rfl 0 rfl (by kernel_rfl) _ (fun w' hf => run_load_blk hf 38 Tryz.underlying38 rfl (by kernel_rfl)) ?_
  simp only [Act.put, List.getElem_toArray, List.getElem_cons_zero, List.getElem_cons_succ, List.setIfInBounds_toArray, List.set_cons_zero, List.set_cons_succ]
  refine loadQ 2 rfl (by kernel_rfl) (by kernel_rfl) rfl rfl 1 rfl (by kernel_rfl) _ (fun w' hf => run_load_blk hf 33 Tryz.underlying33 rfl (by kernel_rfl)) ?_
  simp only [Act.put, List.getElem_toArray, List.getElem_cons_zero, List.getElem_cons_succ, List.setIfInBounds_toArray, List.set_cons_zero, List.set_cons_succ]
  refine stepQ2 1 7 rfl rfl (by kernel_rfl) (by decide) (by kernel_rfl) (by kernel_rfl) (fun K hK => ?_) (fun K hK => ?_)
  · go_simp
    refine (CE.out _).mono ?_
    rintro e w4 ⟨rfl, hb9⟩
    replace C4 := C4.drew.trans (hb9.mono C4.drew.size)
    replace C0 := C0.drew.below hb9
    replace C1 := C1.drew.below hb9
    replace C2 := C2.drew.below hb9
    replace C3 := C3.drew.below hb9
    replace RO := ownsRow_below RO.drew hb9
    refine hK _ _ ⟨⟨fun _ => C0, fun _ => C1, trivial⟩, ?_⟩
    clear hK K
    refine stepQ2 3 7 rfl rfl (by kernel_rfl) (by decide) (by kernel_rfl) (by kernel_rfl) (fun K hK => ?_) (fun K hK => ?_)
    · go_simp
      refine (CD.out _).mono ?_
      rintro e w5 ⟨rfl, hb9⟩
      replace C4 := C4.trans (hb9.mono C4.size)
      replace C0 := C0.below hb9
      replace C1 := C1.below hb9
      replace C2 := C2.below hb9
      replace C3 := C3.below hb9
      replace RO := ownsRow_below RO hb9
      refine hK _ _ ⟨⟨fun _ => C0, fun _ => C1, trivial⟩, ?_⟩
      clear hK K
      refine takeQ 4 rfl (by kernel_rfl) rfl (by kernel_rfl) fun K hK => ?_
      simp only [List.getElem_toArray, List.getElem_cons_zero, List.getElem_cons_succ]
      go_big_quiet_op
      refine hK _ ?_
      clear hK K
      refine takeQ 5 rfl (by kernel_rfl) rfl (by kernel_rfl) fun K hK => ?_
      simp only [List.getElem_toArray, List.getElem_cons_zero, List.getElem_cons_succ]
      go_big_quiet_op
      refine hK _ ?_
      clear hK K
      refine takeQ 6 rfl (by kernel_rfl) rfl (by kernel_rfl) fun K hK => ?_
      simp only [List.getElem_toArray, List.getElem_cons_zero, List.getElem_cons_succ]
      go_big_quiet_op
      refine hK _ ?_
      clear hK K
      refine stepQ 7 rfl (by kernel_rfl) (by decide) (by kernel_rfl) fun K hK => ?_
      simp only [List.getElem_toArray, List.getElem_cons_zero, List.getElem_cons_succ]
      go_simp
      have C5 := Blk.new_at w5 #[.slice none 0 0, .slice none 0 0] 53 w5.heap.size rfl
      have n0 : w.heap.size < w5.heap.size := C0.lt
      have n1 : W.heap.size < w5.heap.size := C1.lt
      have n2 : w.heap.size + 1 < w5.heap.size := C2.lt
      have n3 : w.heap.size + 1 + 1 < w5.heap.size := C3.lt
      replace C4 := C4.alloc C4.size (.cells #[.slice none 0 0, .slice none 0 0] 53)
      replace C0 := C0.alloc (.cells #[.slice none 0 0, .slice none 0 0] 53)
      replace C1 := C1.alloc (.cells #[.slice none 0 0, .slice none 0 0] 53)
      replace C2 := C2.alloc (.cells #[.slice none 0 0, .slice none 0 0] 53)
      replace RO := RO.alloc (.cells #[.slice none 0 0, .slice none 0 0] 53)
      replace C3 := C3.alloc (.cells #[.slice none 0 0, .slice none 0 0] 53)
      refine hK _ _ ⟨⟨fun _ => C0, fun _ => C1, trivial⟩, ?_⟩
      clear hK K
      refine stepQ 8 rfl (by kernel_rfl) (by decide) (by kernel_rfl) fun K hK => ?_
      simp only [List.getElem_toArray, List.getElem_cons_zero, List.getElem_cons_succ]
      refine wp_store_whole 38 38 _ _ rfl 8 (fun w => by kernel_rfl) w.heap.size _ #[.string ⟨#[]⟩, .int .i64 0, .int .i64 0, .int .i64 0, .int .i64 0, .slice none 0 0, .slice none 0 0, .slice none 0 0] rfl rfl C0 rfl rfl (by simp [Value.oneCell']) fun w6 h6 g6 => ?_
      have D1 := C1.wrote g6 (by simp; omega)
      have D2 := C2.wrote g6 (by simp)
      have D3 := C3.wrote g6 (by simp; omega)
      have D5 := C5.wrote g6 (by simp; omega)
      have D4 := below_wrote C4 g6 (by simp)
      replace RO := not_own RO g6 (fun x hx hb => by simp at hx; subst hx; exact block_not_row C0 (by decide) RO (mem_blk.1 hb).symm)
      refine hK _ _ ⟨⟨fun h => (by simp at h), fun _ => D1, trivial⟩, ?_⟩
      clear hK K
      refine stepQ 9 rfl (by kernel_rfl) (by decide) (by kernel_rfl) fun K hK => ?_
      simp only [List.getElem_toArray, List.getElem_cons_zero, List.getElem_cons_succ]
      refine wp_store_whole 53 53 _ _ rfl 2 (fun w => by kernel_rfl) w5.heap.size _ #[(.slice none 0 0), .slice none 0 0] rfl rfl D5 rfl rfl (by simp [Value.oneCell']) fun w7 h7 g7 => ?_
      have E0 := h6.wrote g7 (by simp; omega)
      have E1 := D1.wrote g7 (by simp; omega)
      have E2 := D2.wrote g7 (by simp; omega)
      have E3 := D3.wrote g7 (by simp; omega)
      have E4 := below_wrote D4 g7 (by simp; omega)
      replace RO := not_own RO g7 (fun x hx hb => by simp at hx; subst hx; exact block_not_row D5 (by decide) RO (mem_blk.1 hb).symm)
      refine hK _ _ ⟨⟨fun h => (by simp at h), fun _ => E1, trivial⟩, ?_⟩
      clear hK K
      refine doneQ (by kernel_rfl) (hKQ.out _ _ ?_)
      clear hKQ KQ
      clear C0 C1 C2 C3 C4 C5 D1 D2 D3 D4 D5 g6 g7 h6
      go_wp2_with fail
      refine regionQ [(1000, fun w' => Blk w' w.heap.size #[.string ⟨#[]⟩, .int .i64 0, .int .i64 0, .int .i64 0, .int .i64 0, .slice none 0 0, .slice none 0 0, .slice none 0 0] 38), (1000, fun w' => Blk w' (w5.heap.size) #[(.slice none 0 0), .slice none 0 0] 53)] (by kernel_rfl) ⟨E0, h7, trivial⟩ fun KQ hKQ => ?_
      refine loadQ 0 rfl (by kernel_rfl) (by kernel_rfl) rfl rfl 0 rfl (by kernel_rfl) _ (fun w' hf => run_load_blk hf 38 Tryz.underlying38 rfl (by kernel_rfl)) ?_
      simp only [Act.put, List.getElem_toArray, List.getElem_cons_zero, List.getElem_cons_succ, List.setIfInBounds_toArray, List.set_cons_zero, List.set_cons_succ]
      refine loadQ 1 rfl (by kernel_rfl) (by kernel_rfl) rfl rfl 1 rfl (by kernel_rfl) _ (fun w' hf => run_load_blk hf 53 Tryz.underlying53 rfl (by kernel_rfl)) ?_
      simp only [Act.put, List.getElem_toArray, List.getElem_cons_zero, List.getElem_cons_succ, List.setIfInBounds_toArray, List.set_cons_zero, List.set_cons_succ]
      refine stepQ 2 rfl (by kernel_rfl) (by decide) (by kernel_rfl) fun K hK => ?_
      simp only [List.getElem_toArray, List.getElem_cons_zero, List.getElem_cons_succ]
      refine wp_store_whole 38 38 _ _ rfl 8 (fun w => by kernel_rfl) (w.heap.size + 1) _ #[.string ⟨#[]⟩, .int .i64 0, .int .i64 0, .int .i64 0, .int .i64 0, .slice none 0 0, .slice none 0 0, .slice none 0 0] rfl rfl E2.drew rfl rfl (by simp [Value.oneCell']) fun w8 h8 g8 => ?_
      have F0 := E0.drew.wrote g8 (by simp)
      have F5 := h7.drew.wrote g8 (by simp; omega)
      have F3 := E3.drew.wrote g8 (by simp)
      have F4 := below_wrote E4.drew g8 (by simp)
      replace RO := not_own RO.drew g8 (fun x hx hb => by simp at hx; subst hx; exact block_not_row E2 (by decide) RO (mem_blk.1 hb).symm)
      refine hK _ _ ⟨⟨fun _ => F0, fun _ => F5, trivial⟩, ?_⟩
      clear hK K
      refine stepQ 3 rfl (by kernel_rfl) (by decide) (by kernel_rfl) fun K hK => ?_
      simp only [List.getElem_toArray, List.getElem_cons_zero, List.getElem_cons_succ]
      refine wp_store_whole 53 53 _ _ rfl 2 (fun w => by kernel_rfl) (w.heap.size + 1 + 1) _ #[(.slice none 0 0), .slice none 0 0] rfl rfl F3 rfl rfl (by simp [Value.oneCell']) fun w9 h9 g9 => ?_
      have G0 := F0.wrote g9 (by simp; omega)
      have G5 := F5.wrote g9 (by simp; omega)
      have G2 := h8.wrote g9 (by simp)
      have G4 := below_wrote F4 g9 (by simp; omega)
      replace RO := not_own RO g9 (fun x hx hb => by simp at hx; subst hx; exact block_not_row F3 (by decide) RO (mem_blk.1 hb).symm)
      refine hK _ _ ⟨⟨fun _ => G0, fun _ => G5, trivial⟩, ?_⟩
      clear hK K
      try simp only [Act.put, List.getElem_toArray, List.getElem_cons_zero, List.getElem_cons_succ, List.setIfInBounds_toArray, List.set_cons_zero, List.set_cons_succ]
      refine takeQ 4 rfl (by kernel_rfl) rfl (by kernel_rfl) fun K hK => ?_
      simp only [List.getElem_toArray, List.getElem_cons_zero, List.getElem_cons_succ]
      go_big_quiet_op
      refine hK _ ?_
      clear hK K
      refine doneQ (by kernel_rfl) (hKQ.out _ _ ?_)
      clear hKQ KQ
      go_wp2
      change bodyPost Tryz.prog Tryz.f47 _ _ _ _
      refine bodyPost_ret (v := .tuple #[.agg #[.string ⟨#[]⟩, .int .i64 0, .int .i64 0, .int .i64 0, .int .i64 0, .slice none 0 0, .slice none 0 0, .slice none 0 0], .agg #[(.slice none 0 0), .slice none 0 0], .int .i64 0]) ?_ rfl ?_
      · have l1 := run_loadVar_blk (P := Tryz.prog) G2 38 Tryz.underlying38 rfl (by kernel_rfl)
        have l2 := run_loadVar_blk (P := Tryz.prog) h9 53 Tryz.underlying53 rfl (by kernel_rfl)
        exact results_cct Tryz.results47 rfl rfl l1 l2 rfl
      · exact ⟨rfl, G4⟩
    · go_simp
      have C5 := Blk.new_at w4 #[.slice none 0 0, .slice none 0 0] 53 w4.heap.size rfl
      have n0 : w.heap.size < w4.heap.size := C0.lt
      have n1 : W.heap.size < w4.heap.size := C1.lt
      have n2 : w.heap.size + 1 < w4.heap.size := C2.lt
      have n3 : w.heap.size + 1 + 1 < w4.heap.size := C3.lt
      replace C4 := C4.alloc C4.size (.cells #[.slice none 0 0, .slice none 0 0] 53)
      replace C0 := C0.alloc (.cells #[.slice none 0 0, .slice none 0 0] 53)
      replace C1 := C1.alloc (.cells #[.slice none 0 0, .slice none 0 0] 53)
      replace C2 := C2.alloc (.cells #[.slice none 0 0, .slice none 0 0] 53)
      replace RO := RO.alloc (.cells #[.slice none 0 0, .slice none 0 0] 53)
      replace C3 := C3.alloc (.cells #[.slice none 0 0, .slice none 0 0] 53)
      refine hK _ _ ⟨⟨fun _ => C0, fun _ => C1, trivial⟩, ?_⟩
      clear hK K
      refine stepQ 3 rfl (by kernel_rfl) (by decide) (by kernel_rfl) fun K hK => ?_
      simp only [List.getElem_toArray, List.getElem_cons_zero, List.getElem_cons_succ]
      go_simp
      refine (CD.out _).mono ?_
      rintro e w5 ⟨rfl, hb9⟩
      replace C4 := C4.trans (hb9.mono C4.size)
      replace C0 := C0.below hb9
      replace C1 := C1.below hb9
      replace C2 := C2.below hb9
      replace C3 := C3.below hb9
      replace RO := ownsRow_below RO hb9
      refine hK _ _ ⟨⟨fun _ => C0, fun _ => C1, trivial⟩, ?_⟩
      clear hK K
      have C5 := C5.below hb9
      clear hb9
      refine takeQ 4 rfl (by kernel_rfl) rfl (by kernel_rfl) fun K hK => ?_
      simp only [List.getElem_toArray, List.getElem_cons_zero, List.getElem_cons_succ]
      go_big_quiet_op
      refine hK _ ?_
      clear hK K
      refine takeQ 5 rfl (by kernel_rfl) rfl (by kernel_rfl) fun K hK => ?_
      simp only [List.getElem_toArray, List.getElem_cons_zero, List.getElem_cons_succ]
      go_big_quiet_op
      refine hK _ ?_
      clear hK K
      refine takeQ 6 rfl (by kernel_rfl) rfl (by kernel_rfl) fun K hK => ?_
      simp only [List.getElem_toArray, List.getElem_cons_zero, List.getElem_cons_succ]
      go_big_quiet_op
      refine hK _ ?_
      clear hK K
      refine stepQ 8 rfl (by kernel_rfl) (by decide) (by kernel_rfl) fun K hK => ?_
      simp only [List.getElem_toArray, List.getElem_cons_zero, List.getElem_cons_succ]
      refine wp_store_whole 38 38 _ _ rfl 8 (fun w => by kernel_rfl) w.heap.size _ #[.string ⟨#[]⟩, .int .i64 0, .int .i64 0, .int .i64 0, .int .i64 0, .slice none 0 0, .slice none 0 0, .slice none 0 0] rfl rfl C0 rfl rfl (by simp [Value.oneCell']) fun w6 h6 g6 => ?_
      have D1 := C1.wrote g6 (by simp; omega)
      have D2 := C2.wrote g6 (by simp)
      have D3 := C3.wrote g6 (by simp; omega)
      have D5 := C5.wrote g6 (by simp; omega)
      have D4 := below_wrote C4 g6 (by simp)
      replace RO := not_own RO g6 (fun x hx hb => by simp at hx; subst hx; exact block_not_row C0 (by decide) RO (mem_blk.1 hb).symm)
      refine hK _ _ ⟨⟨fun h => (by simp at h), fun _ => D1, trivial⟩, ?_⟩
      clear hK K
      refine stepQ 9 rfl (by kernel_rfl) (by decide) (by kernel_rfl) fun K hK => ?_
      simp only [List.getElem_toArray, List.getElem_cons_zero, List.getElem_cons_succ]
      refine wp_store_whole 53 53 _ _ rfl 2 (fun w => by kernel_rfl) w4.heap.size _ #[(.slice none 0 0), .slice none 0 0] rfl rfl D5 rfl rfl (by simp [Value.oneCell']) fun w7 h7 g7 => ?_
      have E0 := h6.wrote g7 (by simp; omega)
      have E1 := D1.wrote g7 (by simp; omega)
      have E2 := D2.wrote g7 (by simp; omega)
      have E3 := D3.wrote g7 (by simp; omega)
      have E4 := below_wrote D4 g7 (by simp; omega)
      replace RO := not_own RO g7 (fun x hx hb => by simp at hx; subst hx; exact block_not_row D5 (by decide) RO (mem_blk.1 hb).symm)
      refine hK _ _ ⟨⟨fun h => (by simp at h), fun _ => E1, trivial⟩, ?_⟩
      clear hK K
      refine doneQ (by kernel_rfl) (hKQ.out _ _ ?_)
      clear hKQ KQ
      clear C0 C1 C2 C3 C4 C5 D1 D2 D3 D4 D5 g6 g7 h6
      go_wp2_with fail
      refine regionQ [(1000, fun w' => Blk w' w.heap.size #[.string ⟨#[]⟩, .int .i64 0, .int .i64 0, .int .i64 0, .int .i64 0, .slice none 0 0, .slice none 0 0, .slice none 0 0] 38), (1000, fun w' => Blk w' (w4.heap.size) #[(.slice none 0 0), .slice none 0 0] 53)] (by kernel_rfl) ⟨E0, h7, trivial⟩ fun KQ hKQ => ?_
      refine loadQ 0 rfl (by kernel_rfl) (by kernel_rfl) rfl rfl 0 rfl (by kernel_rfl) _ (fun w' hf => run_load_blk hf 38 Tryz.underlying38 rfl (by kernel_rfl)) ?_
      simp only [Act.put, List.getElem_toArray, List.getElem_cons_zero, List.getElem_cons_succ, List.setIfInBounds_toArray, List.set_cons_zero, List.set_cons_succ]
      refine loadQ 1 rfl (by kernel_rfl) (by kernel_rfl) rfl rfl 1 rfl (by kernel_rfl) _ (fun w' hf => run_load_blk hf 53 Tryz.underlying53 rfl (by kernel_rfl)) ?_
      simp only [Act.put, List.getElem_toArray, List.getElem_cons_zero, List.getElem_cons_succ, List.setIfInBounds_toArray, List.set_cons_zero, List.set_cons_succ]
      refine stepQ 2 rfl (by kernel_rfl) (by decide) (by kernel_rfl) fun K hK => ?_
      simp only [List.getElem_toArray, List.getElem_cons_zero, List.getElem_cons_succ]
      refine wp_store_whole 38 38 _ _ rfl 8 (fun w => by kernel_rfl) (w.heap.size + 1) _ #[.string ⟨#[]⟩, .int .i64 0, .int .i64 0, .int .i64 0, .int .i64 0, .slice none 0 0, .slice none 0 0, .slice none 0 0] rfl rfl E2.drew rfl rfl (by simp [Value.oneCell']) fun w8 h8 g8 => ?_
      have F0 := E0.drew.wrote g8 (by simp)
      have F5 := h7.drew.wrote g8 (by simp; omega)
      have F3 := E3.drew.wrote g8 (by simp)
      have F4 := below_wrote E4.drew g8 (by simp)
      replace RO := not_own RO.drew g8 (fun x hx hb => by simp at hx; subst hx; exact block_not_row E2 (by decide) RO (mem_blk.1 hb).symm)
      refine hK _ _ ⟨⟨fun _ => F0, fun _ => F5, trivial⟩, ?_⟩
      clear hK K
      refine stepQ 3 rfl (by kernel_rfl) (by decide) (by kernel_rfl) fun K hK => ?_
      simp only [List.getElem_toArray, List.getElem_cons_zero, List.getElem_cons_succ]
      refine wp_store_whole 53 53 _ _ rfl 2 (fun w => by kernel_rfl) (w.heap.size + 1 + 1) _ #[(.slice none 0 0), .slice none 0 0] rfl rfl F3 rfl rfl (by simp [Value.oneCell']) fun w9 h9 g9 => ?_
      have G0 := F0.wrote g9 (by simp; omega)
      have G5 := F5.wrote g9 (by simp; omega)
      have G2 := h8.wrote g9 (by simp)
      have G4 := below_wrote F4 g9 (by simp; omega)
      replace RO := not_own RO g9 (fun x hx hb => by simp at hx; subst hx; exact block_not_row F3 (by decide) RO (mem_blk.1 hb).symm)
      refine hK _ _ ⟨⟨fun _ => G0, fun _ => G5, trivial⟩, ?_⟩
      clear hK K
      try simp only [Act.put, List.getElem_toArray, List.getElem_cons_zero, List.getElem_cons_succ, List.setIfInBounds_toArray, List.set_cons_zero, List.set_cons_succ]
      refine takeQ 4 rfl (by kernel_rfl) rfl (by kernel_rfl) fun K hK => ?_
      simp only [List.getElem_toArray, List.getElem_cons_zero, List.getElem_cons_succ]
      go_big_quiet_op
      refine hK _ ?_
      clear hK K
      refine doneQ (by kernel_rfl) (hKQ.out _ _ ?_)
      clear hKQ KQ
      go_wp2
      change bodyPost Tryz.prog Tryz.f47 _ _ _ _
      refine bodyPost_ret (v := .tuple #[.agg #[.string ⟨#[]⟩, .int .i64 0, .int .i64 0, .int .i64 0, .int .i64 0, .slice none 0 0, .slice none 0 0, .slice none 0 0], .agg #[(.slice none 0 0), .slice none 0 0], .int .i64 0]) ?_ rfl ?_
      · have l1 := run_loadVar_blk (P := Tryz.prog) G2 38 Tryz.underlying38 rfl (by kernel_rfl)
        have l2 := run_loadVar_blk (P := Tryz.prog) h9 53 Tryz.underlying53 rfl (by kernel_rfl)
        exact results_cct Tryz.results47 rfl rfl l1 l2 rfl
      · exact ⟨rfl, G4⟩
  · go_simp
    have C5 := Blk.new_at w3.drew #[.slice none 0 0, .slice none 0 0] 53 w3.heap.size rfl
    have n0 : w.heap.size < w3.heap.size := C0.lt
    have n1 : W.heap.size < w3.heap.size := C1.lt
    have n2 : w.heap.size + 1 < w3.heap.size := C2.lt
    have n3 : w.heap.size + 1 + 1 < w3.heap.size := C3.lt
    replace C4 := C4.drew.alloc C4.drew.size (.cells #[.slice none 0 0, .slice none 0 0] 53)
    replace C0 := C0.drew.alloc (.cells #[.slice none 0 0, .slice none 0 0] 53)
    replace C1 := C1.drew.alloc (.cells #[.slice none 0 0, .slice none 0 0] 53)
    replace C2 := C2.drew.alloc (.cells #[.slice none 0 0, .slice none 0 0] 53)
    replace RO := RO.drew.alloc (.cells #[.slice none 0 0, .slice none 0 0] 53)
    replace C3 := C3.drew.alloc (.cells #[.slice none 0 0, .slice none 0 0] 53)
    refine hK _ _ ⟨⟨fun _ => C0, fun _ => C1, trivial⟩, ?_⟩
    clear hK K
    refine stepQ 1 rfl (by kernel_rfl) (by decide) (by kernel_rfl) fun K hK => ?_
    simp only [List.getElem_toArray, List.getElem_cons_zero, List.getElem_cons_succ]
    go_simp
    refine (CE.out _).mono ?_
    rintro e w4 ⟨rfl, hb9⟩
    replace C4 := C4.trans (hb9.mono C4.size)
    replace C0 := C0.below hb9
    replace C1 := C1.below hb9
    replace C2 := C2.below hb9
    replace C3 := C3.below hb9
    replace RO := ownsRow_below RO hb9
    refine hK _ _ ⟨⟨fun _ => C0, fun _ => C1, trivial⟩, ?_⟩
    clear hK K
    have C5 := C5.below hb9
    clear hb9
    refine stepQ 3 rfl (by kernel_rfl) (by decide) (by kernel_rfl) fun K hK => ?_
    simp only [List.getElem_toArray, List.getElem_cons_zero, List.getElem_cons_succ]
    go_simp
    refine (CD.out _).mono ?_
    rintro e w5 ⟨rfl, hb9⟩
    replace C4 := C4.trans (hb9.mono C4.size)
    replace C0 := C0.below hb9
    replace C1 := C1.below hb9
    replace C2 := C2.below hb9
    replace C3 := C3.below hb9
    replace RO := ownsRow_below RO hb9
    refine hK _ _ ⟨⟨fun _ => C0, fun _ => C1, trivial⟩, ?_⟩
    clear hK K
    have C5 := C5.below hb9
    clear hb9
    refine takeQ 4 rfl (by kernel_rfl) rfl (by kernel_rfl) fun K hK => ?_
    simp only [List.getElem_toArray, List.getElem_cons_zero, List.getElem_cons_succ]
    go_big_quiet_op
    refine hK _ ?_
    clear hK K
    refine takeQ 5 rfl (by kernel_rfl) rfl (by kernel_rfl) fun K hK => ?_
    simp only [List.getElem_toArray, List.getElem_cons_zero, List.getElem_cons_succ]
    go_big_quiet_op
    refine hK _ ?_
    clear hK K
    refine takeQ 6 rfl (by kernel_rfl) rfl (by kernel_rfl) fun K hK => ?_
    simp only [List.getElem_toArray, List.getElem_cons_zero, List.getElem_cons_succ]
    go_big_quiet_op
    refine hK _ ?_
    clear hK K
    refine stepQ 8 rfl (by kernel_rfl) (by decide) (by kernel_rfl) fun K hK => ?_
    simp only [List.getElem_toArray, List.getElem_cons_zero, List.getElem_cons_succ]
    refine wp_store_whole 38 38 _ _ rfl 8 (fun w => by kernel_rfl) w.heap.size _ #[.string ⟨#[]⟩, .int .i64 0, .int .i64 0, .int .i64 0, .int .i64 0, .slice none 0 0, .slice none 0 0, .slice none 0 0] rfl rfl C0 rfl rfl (by simp [Value.oneCell']) fun w6 h6 g6 => ?_
    have D1 := C1.wrote g6 (by simp; omega)
    have D2 := C2.wrote g6 (by simp)
    have D3 := C3.wrote g6 (by simp; omega)
    have D5 := C5.wrote g6 (by simp; omega)
    have D4 := below_wrote C4 g6 (by simp)
    replace RO := not_own RO g6 (fun x hx hb => by simp at hx; subst hx; exact block_not_row C0 (by decide) RO (mem_blk.1 hb).symm)
    refine hK _ _ ⟨⟨fun h => (by simp at h), fun _ => D1, trivial⟩, ?_⟩
    clear hK K
    refine stepQ 9 rfl (by kernel_rfl) (by decide) (by kernel_rfl) fun K hK => ?_
    simp only [List.getElem_toArray, List.getElem_cons_zero, List.getElem_cons_succ]
    refine wp_store_whole 53 53 _ _ rfl 2 (fun w => by kernel_rfl) w3.heap.size _ #[(.slice none 0 0), .slice none 0 0] rfl rfl D5 rfl rfl (by simp [Value.oneCell']) fun w7 h7 g7 => ?_
    have E0 := h6.wrote g7 (by simp; omega)
    have E1 := D1.wrote g7 (by simp; omega)
    have E2 := D2.wrote g7 (by simp; omega)
    have E3 := D3.wrote g7 (by simp; omega)
    have E4 := below_wrote D4 g7 (by simp; omega)
    replace RO := not_own RO g7 (fun x hx hb => by simp at hx; subst hx; exact block_not_row D5 (by decide) RO (mem_blk.1 hb).symm)
    refine hK _ _ ⟨⟨fun h => (by simp at h), fun _ => E1, trivial⟩, ?_⟩
    clear hK K
    refine doneQ (by kernel_rfl) (hKQ.out _ _ ?_)
    clear hKQ KQ
    clear C0 C1 C2 C3 C4 C5 D1 D2 D3 D4 D5 g6 g7 h6
    go_wp2_with fail
    refine regionQ [(1000, fun w' => Blk w' w.heap.size #[.string ⟨#[]⟩, .int .i64 0, .int .i64 0, .int .i64 0, .int .i64 0, .slice none 0 0, .slice none 0 0, .slice none 0 0] 38), (1000, fun w' => Blk w' (w3.heap.size) #[(.slice none 0 0), .slice none 0 0] 53)] (by kernel_rfl) ⟨E0, h7, trivial⟩ fun KQ hKQ => ?_
    refine loadQ 0 rfl (by kernel_rfl) (by kernel_rfl) rfl rfl 0 rfl (by kernel_rfl) _ (fun w' hf => run_load_blk hf 38 Tryz.underlying38 rfl (by kernel_rfl)) ?_
    simp only [Act.put, List.getElem_toArray, List.getElem_cons_zero, List.getElem_cons_succ, List.setIfInBounds_toArray, List.set_cons_zero, List.set_cons_succ]
    refine loadQ 1 rfl (by kernel_rfl) (by kernel_rfl) rfl rfl 1 rfl (by kernel_rfl) _ (fun w' hf => run_load_blk hf 53 Tryz.underlying53 rfl (by kernel_rfl)) ?_
    simp only [Act.put, List.getElem_toArray, List.getElem_cons_zero, List.getElem_cons_succ, List.setIfInBounds_toArray, List.set_cons_zero, List.set_cons_succ]
    refine stepQ 2 rfl (by kernel_rfl) (by decide) (by kernel_rfl) fun K hK => ?_
    simp only [List.getElem_toArray, List.getElem_cons_zero, List.getElem_cons_succ]
    refine wp_store_whole 38 38 _ _ rfl 8 (fun w => by kernel_rfl) (w.heap.size + 1) _ #[.string ⟨#[]⟩, .int .i64 0, .int .i64 0, .int .i64 0, .int .i64 0, .slice none 0 0, .slice none 0 0, .slice none 0 0] rfl rfl E2.drew rfl rfl (by simp [Value.oneCell']) fun w8 h8 g8 => ?_
    have F0 := E0.drew.wrote g8 (by simp)
    have F5 := h7.drew.wrote g8 (by simp; omega)
    have F3 := E3.drew.wrote g8 (by simp)
    have F4 := below_wrote E4.drew g8 (by simp)
    replace RO := not_own RO.drew g8 (fun x hx hb => by simp at hx; subst hx; exact block_not_row E2 (by decide) RO (mem_blk.1 hb).symm)
    refine hK _ _ ⟨⟨fun _ => F0, fun _ => F5, trivial⟩, ?_⟩
    clear hK K
    refine stepQ 3 rfl (by kernel_rfl) (by decide) (by kernel_rfl) fun K hK => ?_
    simp only [List.getElem_toArray, List.getElem_cons_zero, List.getElem_cons_succ]
    refine wp_store_whole 53 53 _ _ rfl 2 (fun w => by kernel_rfl) (w.heap.size + 1 + 1) _ #[(.slice none 0 0), .slice none 0 0] rfl rfl F3 rfl rfl (by simp [Value.oneCell']) fun w9 h9 g9 => ?_
    have G0 := F0.wrote g9 (by simp; omega)
    have G5 := F5.wrote g9 (by simp; omega)
    have G2 := h8.wrote g9 (by simp)
    have G4 := below_wrote F4 g9 (by simp; omega)
    replace RO := not_own RO g9 (fun x hx hb => by simp at hx; subst hx; exact block_not_row F3 (by decide) RO (mem_blk.1 hb).symm)
    refine hK _ _ ⟨⟨fun _ => G0, fun _ => G5, trivial⟩, ?_⟩
    clear hK K
    try simp only [Act.put, List.getElem_toArray, List.getElem_cons_zero, List.getElem_cons_succ, List.setIfInBounds_toArray, List.set_cons_zero, List.set_cons_succ]
    refine takeQ 4 rfl (by kernel_rfl) rfl (by kernel_rfl) fun K hK => ?_
    simp only [List.getElem_toArray, List.getElem_cons_zero, List.getElem_cons_succ]
    go_big_quiet_op
    refine hK _ ?_
    clear hK K
    refine doneQ (by kernel_rfl) (hKQ.out _ _ ?_)
    clear hKQ KQ
    go_wp2
    change bodyPost Tryz.prog Tryz.f47 _ _ _ _
    refine bodyPost_ret (v := .tuple #[.agg #[.string ⟨#[]⟩, .int .i64 0, .int .i64 0, .int .i64 0, .int .i64 0, .slice none 0 0, .slice none 0 0, .slice none 0 0], .agg #[(.slice none 0 0), .slice none 0 0], .int .i64 0]) ?_ rfl ?_
    · have l1 := run_loadVar_blk (P := Tryz.prog) G2 38 Tryz.underlying38 rfl (by kernel_rfl)
      have l2 := run_loadVar_blk (P := Tryz.prog) h9 53 Tryz.underlying53 rfl (by kernel_rfl)
      exact results_cct Tryz.results47 rfl rfl l1 l2 rfl
    · exact ⟨rfl, G4⟩
set_option maxRecDepth 100000 in
set_option maxHeartbeats 2000000 in
theorem r_Hear5 (z : Int) (hz : 1 ≤ z ∧ z ≤ 65535) (w : World) :
    Calls Tryz.prog 47 #[.agg (refA (.slice none 0 0)), .int .i64 5, .int .i64 z] w fun e w' => ∃ a n c, e = .returned (.tuple #[.agg (refA (.slice none 0 0)), didA (.slice a n c), .int .i64 0]) ∧ w'.ownsRow w.heap.size 81 24 (.slice a n c) 1 (pubrel z).cells ∧ Below w.heap.size w w' := by
  have SY := hid (r_says (pubrel z))
  have CE := hid r_send
  have CD := hid r_done
  have CS := hid (r_Session none 0 0)
  have CF := hid (r_find z)
  have d1 : decide (z < 1) = false := decide_eq_false (by omega)
  have d2 : decide (65535 < z) = false := decide_eq_false (by omega)
  unfold refA rowZ didA at *
  go_enter Tryz.func47, Tryz.ntmps47
  go_wp2_with fail
  obtain ⟨W, hW⟩ : ∃ W, W = (((w.alloc (.cells #[.string ⟨#[]⟩, .int .i64 0, .int .i64 0, .int .i64 0, .int .i64 0, .slice none 0 0, .slice none 0 0, .slice none 0 0] 38)).alloc (.cells #[.string ⟨#[]⟩, .int .i64 0, .int .i64 0, .int .i64 0, .int .i64 0, .slice none 0 0, .slice none 0 0, .slice none 0 0] 38)).alloc (.cells #[.slice none 0 0, .slice none 0 0] 53)) := ⟨_, rfl⟩
  have B0 : Blk W w.heap.size zA 38 := by rw [hW]; exact ((Blk.new w _ _).alloc _).alloc _
  have B2 : Blk W (w.heap.size + 1) zA 38 := by rw [hW]; exact (Blk.new_at _ _ _ _ (by simp)).alloc _
  have B3 : Blk W (w.heap.size + 1 + 1) #[.slice none 0 0, .slice none 0 0] 53 := by rw [hW]; exact Blk.new_at _ _ _ _ (by simp)
  have B4 : Below w.heap.size w W := by
    rw [hW]
    repeat (first | exact Below.refl _ _ | (refine Below.setCell ?_ (by simp <;> omega) _) | (refine Below.alloc ?_ (by simp <;> omega) _) | refine Below.drew ?_)
  rw [← hW]
  clear hW
  refine (CS.out _).mono ?_
  rintro e w1 ⟨rfl, hb1⟩
  replace B4 := B4.trans (hb1.mono B4.size)
  replace B0 := B0.below hb1
  replace B2 := B2.below hb1
  replace B3 := B3.below hb1
  clear hb1 W
  obtain ⟨W, hW⟩ : ∃ W, W = w1 := ⟨_, rfl⟩
  subst hW
  have lt0 : w.heap.size < W.heap.size := B0.lt
  have b2 : w.heap.size + 1 < W.heap.size := B2.lt
  have b3 : w.heap.size + 1 + 1 < W.heap.size := B3.lt
  go_wp2_with (first
    | (refine wpList_store_blk rfl 33 33 _ _ rfl 9 (fun w => by kernel_rfl) W.heap.size _ #[.int .i64 1, .string ⟨#[]⟩, .int .i64 0, .int .i64 0, .string ⟨#[]⟩, .string ⟨#[]⟩, .int .i64 0, .bool false, .int .i64 0] rfl rfl (Blk.new W _ _) rfl rfl (by simp [Value.oneCell']) fun w2 hb2 hw2 => ?_
       have C1 := hb2
       have C0 := (B0.alloc _).wrote hw2 (by simp; omega)
       have C2 := (B2.alloc _).wrote hw2 (by simp; omega)
       have C3 := (B3.alloc _).wrote hw2 (by simp; omega)
       have C4 := below_wrote (B4.alloc B4.size _) hw2 (by simp; omega)
       clear hw2 hb2)
    | (refine wpList_load_blk rfl 38 _ rfl w.heap.size #[.string ⟨#[]⟩, .int .i64 0, .int .i64 0, .int .i64 0, .int .i64 0, .slice none 0 0, .slice none 0 0, .slice none 0 0] rfl C0 Tryz.underlying38 rfl (by kernel_rfl) ?_))
  refine (CF.out _).mono ?_
  rintro e w3 ⟨rfl, hb3⟩
  replace C4 := C4.trans (hb3.mono C4.size)
  replace C0 := C0.below hb3
  replace C1 := C1.below hb3
  replace C2 := C2.below hb3
  replace C3 := C3.below hb3
  clear hb3
  go_wp2_with (refine wpList_load_blk rfl 38 _ rfl w.heap.size #[.string ⟨#[]⟩, .int .i64 0, .int .i64 0, .int .i64 0, .int .i64 0, .slice none 0 0, .slice none 0 0, .slice none 0 0] rfl C0 Tryz.underlying38 rfl (by kernel_rfl) ?_)

  refine (SY.out _).mono ?_
  rintro e w4 ⟨a, n, c, rfl, RO, hb4⟩
  have CE := hid (CE.out a n c)
  have CD := hid (CD.out a n c)
  have hsz := C4.size
  replace RO := ownsRow_mono RO hsz
  replace C4 := C4.trans (hb4.mono C4.size)
  replace C0 := C0.below hb4
  replace C1 := C1.below hb4
  replace C2 := C2.below hb4
  replace C3 := C3.below hb4
  clear hb4
  go_wp2_with (
    refine wpList_store_blk rfl 38 38 _ _ rfl 8 (fun w => by kernel_rfl) w.heap.size _ #[.string ⟨#[]⟩, .int .i64 0, .int .i64 0, .int .i64 0, .int .i64 0, .slice none 0 0, .slice a n c, .slice none 0 0] rfl rfl C0 rfl rfl (by simp [Value.oneCell']) fun w3 h3 g3 => ?_
    replace RO := not_own RO g3 (fun x hx hb => by simp at hx; subst hx; exact block_not_row C0 (by decide) RO (mem_blk.1 hb).symm)
    replace C1 := C1.wrote g3 (by simp; omega)
    replace C2 := C2.wrote g3 (by simp)
    replace C3 := C3.wrote g3 (by simp; omega)
    replace C4 := below_wrote C4 g3 (by simp)
    replace C0 := h3
    clear h3 g3)
  refine regionQ [(8, fun w' => Blk w' w.heap.size #[.string ⟨#[]⟩, .int .i64 0, .int .i64 0, .int .i64 0, .int .i64 0, .slice none 0 0, (.slice a n c), .slice none 0 0] 38), (1000, fun w' => Blk w' W.heap.size #[.int .i64 1, .string ⟨#[]⟩, .int .i64 0, .int .i64 0, .string ⟨#[]⟩, .string ⟨#[]⟩, .int .i64 0, .bool false, .int .i64 0] 33)] (by kernel_rfl) ⟨C0, C1, trivial⟩ fun KQ hKQ => ?_
  refine loadQ 0 rfl (by kernel_rfl) (by kernel_rfl) rfl rfl 0 rfl (by kernel_rfl) _ (fun w' hf => run_load_blk hf 38 Tryz.underlying38 rfl (by kernel_rfl)) ?_
  simp only [Act.put, List.getElem_toArray, List.getElem_cons_zero, List.getElem_cons_succ, List.setIfInBounds_toArray, List.set_cons_zero, List.set_cons_succ]
  refine loadQ 2 rfl (by kernel_rfl) (by kernel_rfl) rfl rfl 1 rfl (by kernel_rfl) _ (fun w' hf => run_load_blk hf 33 Tryz.underlying33 rfl (by kernel_rfl)) ?_
  simp only [Act.put, List.getElem_toArray, List.getElem_cons_zero, List.getElem_cons_succ, List.setIfInBounds_toArray, List.set_cons_zero, List.set_cons_succ]
  refine stepQ2 1 7 rfl rfl (by kernel_rfl) (by decide) (by kernel_rfl) (by kernel_rfl) (fun K hK => ?_) (fun K hK => ?_)
  · go_simp
    refine (CE.out _).mono ?_
    rintro e w4 ⟨rfl, hb9⟩
    replace C4 := C4.drew.trans (hb9.mono C4.drew.size)
    replace C0 := C0.drew.below hb9
    replace C1 := C1.drew.below hb9
    replace C2 := C2.drew.below hb9
    replace C3 := C3.drew.below hb9
    replace RO := ownsRow_below RO.drew hb9
    refine hK _ _ ⟨⟨fun _ => C0, fun _ => C1, trivial⟩, ?_⟩
    clear hK K
    refine stepQ2 3 7 rfl rfl (by kernel_rfl) (by decide) (by kernel_rfl) (by kernel_rfl) (fun K hK => ?_) (fun K hK => ?_)
    · go_simp
      refine (CD.out _).mono ?_
      rintro e w5 ⟨rfl, hb9⟩
      replace C4 := C4.trans (hb9.mono C4.size)
      replace C0 := C0.below hb9
      replace C1 := C1.below hb9
      replace C2 := C2.below hb9
      replace C3 := C3.below hb9
      replace RO := ownsRow_below RO hb9
      refine hK _ _ ⟨⟨fun _ => C0, fun _ => C1, trivial⟩, ?_⟩
      clear hK K
      refine takeQ 4 rfl (by kernel_rfl) rfl (by kernel_rfl) fun K hK => ?_
      simp only [List.getElem_toArray, List.getElem_cons_zero, List.getElem_cons_succ]
      go_big_quiet_op
      refine hK _ ?_
      clear hK K
      refine takeQ 5 rfl (by kernel_rfl) rfl (by kernel_rfl) fun K hK => ?_
      simp only [List.getElem_toArray, List.getElem_cons_zero, List.getElem_cons_succ]
      go_big_quiet_op
      refine hK _ ?_
      clear hK K
      refine takeQ 6 rfl (by kernel_rfl) rfl (by kernel_rfl) fun K hK => ?_
      simp only [List.getElem_toArray, List.getElem_cons_zero, List.getElem_cons_succ]
      go_big_quiet_op
      refine hK _ ?_
      clear hK K
      refine stepQ 7 rfl (by kernel_rfl) (by decide) (by kernel_rfl) fun K hK => ?_
      simp only [List.getElem_toArray, List.getElem_cons_zero, List.getElem_cons_succ]
      go_simp
      have C5 := Blk.new_at w5 #[.slice none 0 0, .slice none 0 0] 53 w5.heap.size rfl
      have n0 : w.heap.size < w5.heap.size := C0.lt
      have n1 : W.heap.size < w5.heap.size := C1.lt
      have n2 : w.heap.size + 1 < w5.heap.size := C2.lt
      have n3 : w.heap.size + 1 + 1 < w5.heap.size := C3.lt
      replace C4 := C4.alloc C4.size (.cells #[.slice none 0 0, .slice none 0 0] 53)
      replace C0 := C0.alloc (.cells #[.slice none 0 0, .slice none 0 0] 53)
      replace C1 := C1.alloc (.cells #[.slice none 0 0, .slice none 0 0] 53)
      replace C2 := C2.alloc (.cells #[.slice none 0 0, .slice none 0 0] 53)
      replace RO := RO.alloc (.cells #[.slice none 0 0, .slice none 0 0] 53)
      replace C3 := C3.alloc (.cells #[.slice none 0 0, .slice none 0 0] 53)
      refine hK _ _ ⟨⟨fun _ => C0, fun _ => C1, trivial⟩, ?_⟩
      clear hK K
      refine stepQ 8 rfl (by kernel_rfl) (by decide) (by kernel_rfl) fun K hK => ?_
      simp only [List.getElem_toArray, List.getElem_cons_zero, List.getElem_cons_succ]
      refine wp_store_whole 38 38 _ _ rfl 8 (fun w => by kernel_rfl) w.heap.size _ #[.string ⟨#[]⟩, .int .i64 0, .int .i64 0, .int .i64 0, .int .i64 0, .slice none 0 0, .slice none 0 0, .slice none 0 0] rfl rfl C0 rfl rfl (by simp [Value.oneCell']) fun w6 h6 g6 => ?_
      have D1 := C1.wrote g6 (by simp; omega)
      have D2 := C2.wrote g6 (by simp)
      have D3 := C3.wrote g6 (by simp; omega)
      have D5 := C5.wrote g6 (by simp; omega)
      have D4 := below_wrote C4 g6 (by simp)
      replace RO := not_own RO g6 (fun x hx hb => by simp at hx; subst hx; exact block_not_row C0 (by decide) RO (mem_blk.1 hb).symm)
      refine hK _ _ ⟨⟨fun h => (by simp at h), fun _ => D1, trivial⟩, ?_⟩
      clear hK K
      refine stepQ 9 rfl (by kernel_rfl) (by decide) (by kernel_rfl) fun K hK => ?_
      simp only [List.getElem_toArray, List.getElem_cons_zero, List.getElem_cons_succ]
      refine wp_store_whole 53 53 _ _ rfl 2 (fun w => by kernel_rfl) w5.heap.size _ #[(.slice a n c), .slice none 0 0] rfl rfl D5 rfl rfl (by simp [Value.oneCell']) fun w7 h7 g7 => ?_
      have E0 := h6.wrote g7 (by simp; omega)
      have E1 := D1.wrote g7 (by simp; omega)
      have E2 := D2.wrote g7 (by simp; omega)
      have E3 := D3.wrote g7 (by simp; omega)
      have E4 := below_wrote D4 g7 (by simp; omega)
      replace RO := not_own RO g7 (fun x hx hb => by simp at hx; subst hx; exact block_not_row D5 (by decide) RO (mem_blk.1 hb).symm)
      refine hK _ _ ⟨⟨fun h => (by simp at h), fun _ => E1, trivial⟩, ?_⟩
      clear hK K
      refine doneQ (by kernel_rfl) (hKQ.out _ _ ?_)
      clear hKQ KQ
      clear C0 C1 C2 C3 C4 C5 D1 D2 D3 D4 D5 g6 g7 h6
      go_wp2_with fail
      refine regionQ [(1000, fun w' => Blk w' w.heap.size #[.string ⟨#[]⟩, .int .i64 0, .int .i64 0, .int .i64 0, .int .i64 0, .slice none 0 0, .slice none 0 0, .slice none 0 0] 38), (1000, fun w' => Blk w' (w5.heap.size) #[(.slice a n c), .slice none 0 0] 53)] (by kernel_rfl) ⟨E0, h7, trivial⟩ fun KQ hKQ => ?_
      refine loadQ 0 rfl (by kernel_rfl) (by kernel_rfl) rfl rfl 0 rfl (by kernel_rfl) _ (fun w' hf => run_load_blk hf 38 Tryz.underlying38 rfl (by kernel_rfl)) ?_
      simp only [Act.put, List.getElem_toArray, List.getElem_cons_zero, List.getElem_cons_succ, List.setIfInBounds_toArray, List.set_cons_zero, List.set_cons_succ]
      refine loadQ 1 rfl (by kernel_rfl) (by kernel_rfl) rfl rfl 1 rfl (by kernel_rfl) _ (fun w' hf => run_load_blk hf 53 Tryz.underlying53 rfl (by kernel_rfl)) ?_
      simp only [Act.put, List.getElem_toArray, List.getElem_cons_zero, List.getElem_cons_succ, List.setIfInBounds_toArray, List.set_cons_zero, List.set_cons_succ]
      refine stepQ 2 rfl (by kernel_rfl) (by decide) (by kernel_rfl) fun K hK => ?_
      simp only [List.getElem_toArray, List.getElem_cons_zero, List.getElem_cons_succ]
      refine wp_store_whole 38 38 _ _ rfl 8 (fun w => by kernel_rfl) (w.heap.size + 1) _ #[.string ⟨#[]⟩, .int .i64 0, .int .i64 0, .int .i64 0, .int .i64 0, .slice none 0 0, .slice none 0 0, .slice none 0 0] rfl rfl E2.drew rfl rfl (by simp [Value.oneCell']) fun w8 h8 g8 => ?_
      have F0 := E0.drew.wrote g8 (by simp)
      have F5 := h7.drew.wrote g8 (by simp; omega)
      have F3 := E3.drew.wrote g8 (by simp)
      have F4 := below_wrote E4.drew g8 (by simp)
      replace RO := not_own RO.drew g8 (fun x hx hb => by simp at hx; subst hx; exact block_not_row E2 (by decide) RO (mem_blk.1 hb).symm)
      refine hK _ _ ⟨⟨fun _ => F0, fun _ => F5, trivial⟩, ?_⟩
      clear hK K
      refine stepQ 3 rfl (by kernel_rfl) (by decide) (by kernel_rfl) fun K hK => ?_
      simp only [List.getElem_toArray, List.getElem_cons_zero, List.getElem_cons_succ]
      refine wp_store_whole 53 53 _ _ rfl 2 (fun w => by kernel_rfl) (w.heap.size + 1 + 1) _ #[(.slice a n c), .slice none 0 0] rfl rfl F3 rfl rfl (by simp [Value.oneCell']) fun w9 h9 g9 => ?_
      have G0 := F0.wrote g9 (by simp; omega)
      have G5 := F5.wrote g9 (by simp; omega)
      have G2 := h8.wrote g9 (by simp)
      have G4 := below_wrote F4 g9 (by simp; omega)
      replace RO := not_own RO g9 (fun x hx hb => by simp at hx; subst hx; exact block_not_row F3 (by decide) RO (mem_blk.1 hb).symm)
      refine hK _ _ ⟨⟨fun _ => G0, fun _ => G5, trivial⟩, ?_⟩
      clear hK K
      try simp only [Act.put, List.getElem_toArray, List.getElem_cons_zero, List.getElem_cons_succ, List.setIfInBounds_toArray, List.set_cons_zero, List.set_cons_succ]
      refine takeQ 4 rfl (by kernel_rfl) rfl (by kernel_rfl) fun K hK => ?_
      simp only [List.getElem_toArray, List.getElem_cons_zero, List.getElem_cons_succ]
      go_big_quiet_op
      refine hK _ ?_
      clear hK K
      refine doneQ (by kernel_rfl) (hKQ.out _ _ ?_)
      clear hKQ KQ
      go_wp2
      change bodyPost Tryz.prog Tryz.f47 _ _ _ _
      refine bodyPost_ret (v := .tuple #[.agg #[.string ⟨#[]⟩, .int .i64 0, .int .i64 0, .int .i64 0, .int .i64 0, .slice none 0 0, .slice none 0 0, .slice none 0 0], .agg #[(.slice a n c), .slice none 0 0], .int .i64 0]) ?_ rfl ?_
      · have l1 := run_loadVar_blk (P := Tryz.prog) G2 38 Tryz.underlying38 rfl (by kernel_rfl)
        have l2 := run_loadVar_blk (P := Tryz.prog) h9 53 Tryz.underlying53 rfl (by kernel_rfl)
        exact results_cct Tryz.results47 rfl rfl l1 l2 rfl
      · exact ⟨a, n, c, rfl, RO, G4⟩
    · go_simp
      have C5 := Blk.new_at w4 #[.slice none 0 0, .slice none 0 0] 53 w4.heap.size rfl
      have n0 : w.heap.size < w4.heap.size := C0.lt
      have n1 : W.heap.size < w4.heap.size := C1.lt
      have n2 : w.heap.size + 1 < w4.heap.size := C2.lt
      have n3 : w.heap.size + 1 + 1 < w4.heap.size := C3.lt
      replace C4 := C4.alloc C4.size (.cells #[.slice none 0 0, .slice none 0 0] 53)
      replace C0 := C0.alloc (.cells #[.slice none 0 0, .slice none 0 0] 53)
      replace C1 := C1.alloc (.cells #[.slice none 0 0, .slice none 0 0] 53)
      replace C2 := C2.alloc (.cells #[.slice none 0 0, .slice none 0 0] 53)
      replace RO := RO.alloc (.cells #[.slice none 0 0, .slice none 0 0] 53)
      replace C3 := C3.alloc (.cells #[.slice none 0 0, .slice none 0 0] 53)
      refine hK _ _ ⟨⟨fun _ => C0, fun _ => C1, trivial⟩, ?_⟩
      clear hK K
      refine stepQ 3 rfl (by kernel_rfl) (by decide) (by kernel_rfl) fun K hK => ?_
      simp only [List.getElem_toArray, List.getElem_cons_zero, List.getElem_cons_succ]
      go_simp
      refine (CD.out _).mono ?_
      rintro e w5 ⟨rfl, hb9⟩
      replace C4 := C4.trans (hb9.mono C4.size)
      replace C0 := C0.below hb9
      replace C1 := C1.below hb9
      replace C2 := C2.below hb9
      replace C3 := C3.below hb9
      replace RO := ownsRow_below RO hb9
      refine hK _ _ ⟨⟨fun _ => C0, fun _ => C1, trivial⟩, ?_⟩
      clear hK K
      have C5 := C5.below hb9
      clear hb9
      refine takeQ 4 rfl (by kernel_rfl) rfl (by kernel_rfl) fun K hK => ?_
      simp only [List.getElem_toArray, List.getElem_cons_zero, List.getElem_cons_succ]
      go_big_quiet_op
      refine hK _ ?_
      clear hK K
      refine takeQ 5 rfl (by kernel_rfl) rfl (by kernel_rfl) fun K hK => ?_
      simp only [List.getElem_toArray, List.getElem_cons_zero, List.getElem_cons_succ]
      go_big_quiet_op
      refine hK _ ?_
      clear hK K
      refine takeQ 6 rfl (by kernel_rfl) rfl (by kernel_rfl) fun K hK => ?_
      simp only [List.getElem_toArray, List.getElem_cons_zero, List.getElem_cons_succ]
      go_big_quiet_op
      refine hK _ ?_
      clear hK K
      refine stepQ 8 rfl (by kernel_rfl) (by decide) (by kernel_rfl) fun K hK => ?_
      simp only [List.getElem_toArray, List.getElem_cons_zero, List.getElem_cons_succ]
      refine wp_store_whole 38 38 _ _ rfl 8 (fun w => by kernel_rfl) w.heap.size _ #[.string ⟨#[]⟩, .int .i64 0, .int .i64 0, .int .i64 0, .int .i64 0, .slice none 0 0, .slice none 0 0, .slice none 0 0] rfl rfl C0 rfl rfl (by simp [Value.oneCell']) fun w6 h6 g6 => ?_
      have D1 := C1.wrote g6 (by simp; omega)
      have D2 := C2.wrote g6 (by simp)
      have D3 := C3.wrote g6 (by simp; omega)
      have D5 := C5.wrote g6 (by simp; omega)
      have D4 := below_wrote C4 g6 (by simp)
      replace RO := not_own RO g6 (fun x hx hb => by simp at hx; subst hx; exact block_not_row C0 (by decide) RO (mem_blk.1 hb).symm)
      refine hK _ _ ⟨⟨fun h => (by simp at h), fun _ => D1, trivial⟩, ?_⟩
      clear hK K
      refine stepQ 9 rfl (by kernel_rfl) (by decide) (by kernel_rfl) fun K hK => ?_
      simp only [List.getElem_toArray, List.getElem_cons_zero, List.getElem_cons_succ]
      refine wp_store_whole 53 53 _ _ rfl 2 (fun w => by kernel_rfl) w4.heap.size _ #[(.slice a n c), .slice none 0 0] rfl rfl D5 rfl rfl (by simp [Value.oneCell']) fun w7 h7 g7 => ?_
      have E0 := h6.wrote g7 (by simp; omega)
      have E1 := D1.wrote g7 (by simp; omega)
      have E2 := D2.wrote g7 (by simp; omega)
      have E3 := D3.wrote g7 (by simp; omega)
      have E4 := below_wrote D4 g7 (by simp; omega)
      replace RO := not_own RO g7 (fun x hx hb => by simp at hx; subst hx; exact block_not_row D5 (by decide) RO (mem_blk.1 hb).symm)
      refine hK _ _ ⟨⟨fun h => (by simp at h), fun _ => E1, trivial⟩, ?_⟩
      clear hK K
      refine doneQ (by kernel_rfl) (hKQ.out _ _ ?_)
      clear hKQ KQ
      clear C0 C1 C2 C3 C4 C5 D1 D2 D3 D4 D5 g6 g7 h6
      go_wp2_with fail
      refine regionQ [(1000, fun w' => Blk w' w.heap.size #[.string ⟨#[]⟩, .int .i64 0, .int .i64 0, .int .i64 0, .int .i64 0, .slice none 0 0, .slice none 0 0, .slice none 0 0] 38), (1000, fun w' => Blk w' (w4.heap.size) #[(.slice a n c), .slice none 0 0] 53)] (by kernel_rfl) ⟨E0, h7, trivial⟩ fun KQ hKQ => ?_
      refine loadQ 0 rfl (by kernel_rfl) (by kernel_rfl) rfl rfl 0 rfl (by kernel_rfl) _ (fun w' hf => run_load_blk hf 38 Tryz.underlying38 rfl (by kernel_rfl)) ?_
      simp only [Act.put, List.getElem_toArray, List.getElem_cons_zero, List.getElem_cons_succ, List.setIfInBounds_toArray, List.set_cons_zero, List.set_cons_succ]
      refine loadQ 1 rfl (by kernel_rfl) (by kernel_rfl) rfl rfl 1 rfl (by kernel_rfl) _ (fun w' hf => run_load_blk hf 53 Tryz.underlying53 rfl (by kernel_rfl)) ?_
      simp only [Act.put, List.getElem_toArray, List.getElem_cons_zero, List.getElem_cons_succ, List.setIfInBounds_toArray, List.set_cons_zero, List.set_cons_succ]
      refine stepQ 2 rfl (by kernel_rfl) (by decide) (by kernel_rfl) fun K hK => ?_
      simp only [List.getElem_toArray, List.getElem_cons_zero, List.getElem_cons_succ]
      refine wp_store_whole 38 38 _ _ rfl 8 (fun w => by kernel_rfl) (w.heap.size + 1) _ #[.string ⟨#[]⟩, .int .i64 0, .int .i64 0, .int .i64 0, .int .i64 0, .slice none 0 0, .slice none 0 0, .slice none 0 0] rfl rfl E2.drew rfl rfl (by simp [Value.oneCell']) fun w8 h8 g8 => ?_
      have F0 := E0.drew.wrote g8 (by simp)
      have F5 := h7.drew.wrote g8 (by simp; omega)
      have F3 := E3.drew.wrote g8 (by simp)
      have F4 := below_wrote E4.drew g8 (by simp)
      replace RO := not_own RO.drew g8 (fun x hx hb => by simp at hx; subst hx; exact block_not_row E2 (by decide) RO (mem_blk.1 hb).symm)
      refine hK _ _ ⟨⟨fun _ => F0, fun _ => F5, trivial⟩, ?_⟩
      clear hK K
      refine stepQ 3 rfl (by kernel_rfl) (by decide) (by kernel_rfl) fun K hK => ?_
      simp only [List.getElem_toArray, List.getElem_cons_zero, List.getElem_cons_succ]
      refine wp_store_whole 53 53 _ _ rfl 2 (fun w => by kernel_rfl) (w.heap.size + 1 + 1) _ #[(.slice a n c), .slice none 0 0] rfl rfl F3 rfl rfl (by simp [Value.oneCell']) fun w9 h9 g9 => ?_
      have G0 := F0.wrote g9 (by simp; omega)
      have G5 := F5.wrote g9 (by simp; omega)
      have G2 := h8.wrote g9 (by simp)
      have G4 := below_wrote F4 g9 (by simp; omega)
      replace RO := not_own RO g9 (fun x hx hb => by simp at hx; subst hx; exact block_not_row F3 (by decide) RO (mem_blk.1 hb).symm)
      refine hK _ _ ⟨⟨fun _ => G0, fun _ => G5, trivial⟩, ?_⟩
      clear hK K
      try simp only [Act.put, List.getElem_toArray, List.getElem_cons_zero, List.getElem_cons_succ, List.setIfInBounds_toArray, List.set_cons_zero, List.set_cons_succ]
      refine takeQ 4 rfl (by kernel_rfl) rfl (by kernel_rfl) fun K hK => ?_
      simp only [List.getElem_toArray, List.getElem_cons_zero, List.getElem_cons_succ]
      go_big_quiet_op
      refine hK _ ?_
      clear hK K
      refine doneQ (by kernel_rfl) (hKQ.out _ _ ?_)
      clear hKQ KQ
      go_wp2
      change bodyPost Tryz.prog Tryz.f47 _ _ _ _
      refine bodyPost_ret (v := .tuple #[.agg #[.string ⟨#[]⟩, .int .i64 0, .int .i64 0, .int .i64 0, .int .i64 0, .slice none 0 0, .slice none 0 0, .slice none 0 0], .agg #[(.slice a n c), .slice none 0 0], .int .i64 0]) ?_ rfl ?_
      · have l1 := run_loadVar_blk (P := Tryz.prog) G2 38 Tryz.underlying38 rfl (by kernel_rfl)
        have l2 := run_loadVar_blk (P := Tryz.prog) h9 53 Tryz.underlying53 rfl (by kernel_rfl)
        exact results_cct Tryz.results47 rfl rfl l1 l2 rfl
      · exact ⟨a, n, c, rfl, RO, G4⟩
  · go_simp
    have C5 := Blk.new_at w3.drew #[.slice none 0 0, .slice none 0 0] 53 w3.heap.size rfl
    have n0 : w.heap.size < w3.heap.size := C0.lt
    have n1 : W.heap.size < w3.heap.size := C1.lt
    have n2 : w.heap.size + 1 < w3.heap.size := C2.lt
    have n3 : w.heap.size + 1 + 1 < w3.heap.size := C3.lt
    replace C4 := C4.drew.alloc C4.drew.size (.cells #[.slice none 0 0, .slice none 0 0] 53)
    replace C0 := C0.drew.alloc (.cells #[.slice none 0 0, .slice none 0 0] 53)
    replace C1 := C1.drew.alloc (.cells #[.slice none 0 0, .slice none 0 0] 53)
    replace C2 := C2.drew.alloc (.cells #[.slice none 0 0, .slice none 0 0] 53)
    replace RO := RO.drew.alloc (.cells #[.slice none 0 0, .slice none 0 0] 53)
    replace C3 := C3.drew.alloc (.cells #[.slice none 0 0, .slice none 0 0] 53)
    refine hK _ _ ⟨⟨fun _ => C0, fun _ => C1, trivial⟩, ?_⟩
    clear hK K
    refine stepQ 1 rfl (by kernel_rfl) (by decide) (by kernel_rfl) fun K hK => ?_
    simp only [List.getElem_toArray, List.getElem_cons_zero, List.getElem_cons_succ]
    go_simp
    refine (CE.out _).mono ?_
    rintro e w4 ⟨rfl, hb9⟩
    replace C4 := C4.trans (hb9.mono C4.size)
    replace C0 := C0.below hb9
    replace C1 := C1.below hb9
    replace C2 := C2.below hb9
    replace C3 := C3.below hb9
    replace RO := ownsRow_below RO hb9
    refine hK _ _ ⟨⟨fun _ => C0, fun _ => C1, trivial⟩, ?_⟩
    clear hK K
    have C5 := C5.below hb9
    clear hb9
    refine stepQ 3 rfl (by kernel_rfl) (by decide) (by kernel_rfl) fun K hK => ?_
    simp only [List.getElem_toArray, List.getElem_cons_zero, List.getElem_cons_succ]
    go_simp
    refine (CD.out _).mono ?_
    rintro e w5 ⟨rfl, hb9⟩
    replace C4 := C4.trans (hb9.mono C4.size)
    replace C0 := C0.below hb9
    replace C1 := C1.below hb9
    replace C2 := C2.below hb9
    replace C3 := C3.below hb9
    replace RO := ownsRow_below RO hb9
    refine hK _ _ ⟨⟨fun _ => C0, fun _ => C1, trivial⟩, ?_⟩
    clear hK K
    have C5 := C5.below hb9
    clear hb9
    refine takeQ 4 rfl (by kernel_rfl) rfl (by kernel_rfl) fun K hK => ?_
    simp only [List.getElem_toArray, List.getElem_cons_zero, List.getElem_cons_succ]
    go_big_quiet_op
    refine hK _ ?_
    clear hK K
    refine takeQ 5 rfl (by kernel_rfl) rfl (by kernel_rfl) fun K hK => ?_
    simp only [List.getElem_toArray, List.getElem_cons_zero, List.getElem_cons_succ]
    go_big_quiet_op
    refine hK _ ?_
    clear hK K
    refine takeQ 6 rfl (by kernel_rfl) rfl (by kernel_rfl) fun K hK => ?_
    simp only [List.getElem_toArray, List.getElem_cons_zero, List.getElem_cons_succ]
    go_big_quiet_op
    refine hK _ ?_
    clear hK K
    refine stepQ 8 rfl (by kernel_rfl) (by decide) (by kernel_rfl) fun K hK => ?_
    simp only [List.getElem_toArray, List.getElem_cons_zero, List.getElem_cons_succ]
    refine wp_store_whole 38 38 _ _ rfl 8 (fun w => by kernel_rfl) w.heap.size _ #[.string ⟨#[]⟩, .int .i64 0, .int .i64 0, .int .i64 0, .int .i64 0, .slice none 0 0, .slice none 0 0, .slice none 0 0] rfl rfl C0 rfl rfl (by simp [Value.oneCell']) fun w6 h6 g6 => ?_
    have D1 := C1.wrote g6 (by simp; omega)
    have D2 := C2.wrote g6 (by simp)
    have D3 := C3.wrote g6 (by simp; omega)
    have D5 := C5.wrote g6 (by simp; omega)
    have D4 := below_wrote C4 g6 (by simp)
    replace RO := not_own RO g6 (fun x hx hb => by simp at hx; subst hx; exact block_not_row C0 (by decide) RO (mem_blk.1 hb).symm)
    refine hK _ _ ⟨⟨fun h => (by simp at h), fun _ => D1, trivial⟩, ?_⟩
    clear hK K
    refine stepQ 9 rfl (by kernel_rfl) (by decide) (by kernel_rfl) fun K hK => ?_
    simp only [List.getElem_toArray, List.getElem_cons_zero, List.getElem_cons_succ]
    refine wp_store_whole 53 53 _ _ rfl 2 (fun w => by kernel_rfl) w3.heap.size _ #[(.slice a n c), .slice none 0 0] rfl rfl D5 rfl rfl (by simp [Value.oneCell']) fun w7 h7 g7 => ?_
    have E0 := h6.wrote g7 (by simp; omega)
    have E1 := D1.wrote g7 (by simp; omega)
    have E2 := D2.wrote g7 (by simp; omega)
    have E3 := D3.wrote g7 (by simp; omega)
    have E4 := below_wrote D4 g7 (by simp; omega)
    replace RO := not_own RO g7 (fun x hx hb => by simp at hx; subst hx; exact block_not_row D5 (by decide) RO (mem_blk.1 hb).symm)
    refine hK _ _ ⟨⟨fun h => (by simp at h), fun _ => E1, trivial⟩, ?_⟩
    clear hK K
    refine doneQ (by kernel_rfl) (hKQ.out _ _ ?_)
    clear hKQ KQ
    clear C0 C1 C2 C3 C4 C5 D1 D2 D3 D4 D5 g6 g7 h6
    go_wp2_with fail
    refine regionQ [(1000, fun w' => Blk w' w.heap.size #[.string ⟨#[]⟩, .int .i64 0, .int .i64 0, .int .i64 0, .int .i64 0, .slice none 0 0, .slice none 0 0, .slice none 0 0] 38), (1000, fun w' => Blk w' (w3.heap.size) #[(.slice a n c), .slice none 0 0] 53)] (by kernel_rfl) ⟨E0, h7, trivial⟩ fun KQ hKQ => ?_
    refine loadQ 0 rfl (by kernel_rfl) (by kernel_rfl) rfl rfl 0 rfl (by kernel_rfl) _ (fun w' hf => run_load_blk hf 38 Tryz.underlying38 rfl (by kernel_rfl)) ?_
    simp only [Act.put, List.getElem_toArray, List.getElem_cons_zero, List.getElem_cons_succ, List.setIfInBounds_toArray, List.set_cons_zero, List.set_cons_succ]
    refine loadQ 1 rfl (by kernel_rfl) (by kernel_rfl) rfl rfl 1 rfl (by kernel_rfl) _ (fun w' hf => run_load_blk hf 53 Tryz.underlying53 rfl (by kernel_rfl)) ?_
    simp only [Act.put, List.getElem_toArray, List.getElem_cons_zero, List.getElem_cons_succ, List.setIfInBounds_toArray, List.set_cons_zero, List.set_cons_succ]
    refine stepQ 2 rfl (by kernel_rfl) (by decide) (by kernel_rfl) fun K hK => ?_
    simp only [List.getElem_toArray, List.getElem_cons_zero, List.getElem_cons_succ]
    refine wp_store_whole 38 38 _ _ rfl 8 (fun w => by kernel_rfl) (w.heap.size + 1) _ #[.string ⟨#[]⟩, .int .i64 0, .int .i64 0, .int .i64 0, .int .i64 0, .slice none 0 0, .slice none 0 0, .slice none 0 0] rfl rfl E2.drew rfl rfl (by simp [Value.oneCell']) fun w8 h8 g8 => ?_
    have F0 := E0.drew.wrote g8 (by simp)
    have F5 := h7.drew.wrote g8 (by simp; omega)
    have F3 := E3.drew.wrote g8 (by simp)
    have F4 := below_wrote E4.drew g8 (by simp)
    replace RO := not_own RO.drew g8 (fun x hx hb => by simp at hx; subst hx; exact block_not_row E2 (by decide) RO (mem_blk.1 hb).symm)
    refine hK _ _ ⟨⟨fun _ => F0, fun _ => F5, trivial⟩, ?_⟩
    clear hK K
    refine stepQ 3 rfl (by kernel_rfl) (by decide) (by kernel_rfl) fun K hK => ?_
    simp only [List.getElem_toArray, List.getElem_cons_zero, List.getElem_cons_succ]
    refine wp_store_whole 53 53 _ _ rfl 2 (fun w => by kernel_rfl) (w.heap.size + 1 + 1) _ #[(.slice a n c), .slice none 0 0] rfl rfl F3 rfl rfl (by simp [Value.oneCell']) fun w9 h9 g9 => ?_
    have G0 := F0.wrote g9 (by simp; omega)
    have G5 := F5.wrote g9 (by simp; omega)
    have G2 := h8.wrote g9 (by simp)
    have G4 := below_wrote F4 g9 (by simp; omega)
    replace RO := not_own RO g9 (fun x hx hb => by simp at hx; subst hx; exact block_not_row F3 (by decide) RO (mem_blk.1 hb).symm)
    refine hK _ _ ⟨⟨fun _ => G0, fun _ => G5, trivial⟩, ?_⟩
    clear hK K
    try simp only [Act.put, List.getElem_toArray, List.getElem_cons_zero, List.getElem_cons_succ, List.setIfInBounds_toArray, List.set_cons_zero, List.set_cons_succ]
    refine takeQ 4 rfl (by kernel_rfl) rfl (by kernel_rfl) fun K hK => ?_
    simp only [List.getElem_toArray, List.getElem_cons_zero, List.getElem_cons_succ]
    go_big_quiet_op
    refine hK _ ?_
    clear hK K
    refine doneQ (by kernel_rfl) (hKQ.out _ _ ?_)
    clear hKQ KQ
    go_wp2
    change bodyPost Tryz.prog Tryz.f47 _ _ _ _
    refine bodyPost_ret (v := .tuple #[.agg #[.string ⟨#[]⟩, .int .i64 0, .int .i64 0, .int .i64 0, .int .i64 0, .slice none 0 0, .slice none 0 0, .slice none 0 0], .agg #[(.slice a n c), .slice none 0 0], .int .i64 0]) ?_ rfl ?_
    · have l1 := run_loadVar_blk (P := Tryz.prog) G2 38 Tryz.underlying38 rfl (by kernel_rfl)
      have l2 := run_loadVar_blk (P := Tryz.prog) h9 53 Tryz.underlying53 rfl (by kernel_rfl)
      exact results_cct Tryz.results47 rfl rfl l1 l2 rfl
    · exact ⟨a, n, c, rfl, RO, G4⟩
end Go.Proofs.YtoinabapaeebfaaGreatDoor
