/- Parts of the proof of SessionRows: contracts of functions that it reaches, and plain lemmas. No condition of their own. -/
import Derived.Test.YtoinabapaeebfaaGreatDoorPk30
set_option linter.unusedSimpArgs false
set_option linter.unusedVariables false
set_option maxRecDepth 100000
set_option maxHeartbeats 8000000
namespace Go.Proofs.YtoinabapaeebfaaGreatDoor
open Go.RowKit Go.Shelf
section
theorem r23_Hear6 (z : Int) (w : World) :
  Calls Tryz.prog 79 #[.agg zS, .int .i64 6, .int .i64 z] w (RefS w) := by
 have CP := hid fun W => r21_Go z W
 unfold RefS
 have hzs : zS.size = 22 := rfl
 have hzo := zS_one
 have hz13 : zS[13]? = some (.slice none 0 0) := rfl
 have hz3 : zS[3]? = some (.int .i64 0) := rfl
 have hz2 : zS[2]? = some (.int .i64 0) := rfl
 have hz12 : zS[12]? = some (.slice none 0 0) := rfl
 have hz15 : zS[15]? = some (.bool false) := rfl
 obtain ⟨Z, hZ⟩ : ∃ Z, zS = Z := ⟨_, rfl⟩
 rw [hZ] at hzs hzo hz13 hz3 hz2 hz12 hz15 ⊢
 obtain ⟨W0, hW0⟩ : ∃ W0, W0 = (((w.alloc (.cells Z 97)).alloc (.cells zS 97)).alloc (.cells didZ 53)) := ⟨_, rfl⟩
 have R0 := hid (R3.start w Z zS didZ rfl rfl)
 rw [<- hW0] at R0
 have k12 : W0.cell? ⟨w.heap.size, 12, none⟩ = some (.slice none 0 0) := (R0.out.g.cell 12).trans hz12
 rw [hW0] at k12
 unfold zS didZ at hW0 k12
 have hgs : w.heap.size < W0.heap.size := R0.out.g.lt
 have hds : w.heap.size + 1 + 1 < W0.heap.size := by obtain ⟨ds, d1, d2⟩ := R0.out.d; exact d1.lt
 go_enter Tryz.func79, Tryz.ntmps79
 go_wp2_with fail
 rw [<- hW0]
 clear hW0 k12;refine (CP.out _).mono ?_
 rintro e w2 ⟨no, rfl, hb2⟩
 have R2 := hid (R0.out.bel hb2)
 have hs2 : W0.heap.size <= w2.heap.size := hb2.size
 by_cases hno : no = 0
 ·subst hno
  go_wp2_with (first
   | (refine wpList_store_cell rfl 95 97 _ _ rfl (fun w => by kernel_rfl) w.heap.size 12 Z (.slice none 0 0) rfl rfl R2.out.g (by rw [hzs]; decide) rfl rfl ?_; intro w3 hb3 hw3; rw [set_same hz12] at hb3; have R3 := hid (R2.out.put (by decide) hb3 hw3); have hs3 : w2.heap.size <= w3.heap.size := hw3.size)
   | (refine wS 53 2 rfl (w3.heap.size + 1) _ #[.slice (some ⟨w3.heap.size, 0, none⟩) 1 1, .slice none 0 0] rfl rfl (Blk.new_at _ _ _ _ (by simp)) rfl rfl (by simp [Value.oneCell']) ?_; intro w4 hb4 hw4; have hB4 := hid ((((Below.refl w3.heap.size w3).alloc (Nat.le_refl _) (.cells (pcomp z).cells.toArray 81)).alloc (by simp) (.cells didZ 53)).trans (hw4.below (by simp; omega) (by simp))); have R4 := hid (R3.out.bel hB4.out); have hP4 := hid (((Blk.new w3 (pcomp z).cells.toArray 81).alloc (.cells didZ 53)).wrote hw4 (by simp))))
  have hS := hid (show (Tryz.prog.info? 97).map (·.size) = some Z.size by rw [hzs]; kernel_rfl)
  obtain ⟨rs, r1, r2⟩ := R4.out.r
  refine regionQ [(1000, fun w' => Blk w' w.heap.size Z 97), (1000, fun w' => Blk w' (w3.heap.size + 1) #[.slice (some ⟨w3.heap.size, 0, none⟩) 1 1, .slice none 0 0] 53)] (by kernel_rfl) ⟨R4.out.g, hb4, trivial⟩ fun KQ hKQ => ?_
  try simp only [PT]
  refine loadQ 0 rfl (by kernel_rfl) (by kernel_rfl) rfl rfl 0 rfl (by kernel_rfl) _ (fun w' hf => run_load_blk hf 97 Tryz.underlying97 rfl hS.out) ?_
  try simp only [PT]
  refine lR 1 1 rfl rfl rfl rfl (fun w' hf => run_load_blk hf 53 Tryz.underlying53 rfl (by kernel_rfl)) ?_
  simp only [PT];refine sQ 2 fun K hK => ?_;simp only [GO];refine wW 97 22 rfl (w.heap.size + 1) rs Z rfl rfl r1 hzs r2 hzo fun w6 hb6 hw6 => ?_
  have RS := hid ((R4.out.bel (Below.refl _ _).drew).stored (by decide) hzs hb6 hw6)
  have hd6 := hid (hb4.drew.wrote hw6 (by simp; omega))
  have hP6 := hid (hP4.out.drew.wrote hw6 (by simp; omega))
  refine hK _ _ ⟨⟨fun _ => RS.out.g, fun _ => hd6.out, trivial⟩, ?_⟩
  clear hK K;try simp only [PT]
  refine sQ 3 fun K hK => ?_;simp only [GO];obtain ⟨ds, d1, d2⟩ := RS.out.d
  refine wW 53 2 rfl (w.heap.size + 1 + 1) ds #[.slice (some ⟨w3.heap.size, 0, none⟩) 1 1, .slice none 0 0] rfl rfl d1 rfl d2 (by simp [Value.oneCell']) fun w7 hb7 hw7 => ?_
  refine hK _ _ ⟨⟨fun _ => RS.out.g.wrote hw7 (by simp <;> omega), fun _ => hd6.out.wrote hw7 (by simp; omega), trivial⟩, ?_⟩
  clear hK K;try simp only [PT]
  refine tQ [4] ?_;refine dQ (hKQ.out _ _ ?_);clear hKQ KQ;go_wp2
  have l1 := run_loadVar_blk (P := Tryz.prog) (hb6.wrote hw7 (by simp)) 97 Tryz.underlying97 rfl (by rw [hzs]; kernel_rfl)
  have l2 := run_loadVar_blk (P := Tryz.prog) hb7 53 Tryz.underlying53 rfl (by kernel_rfl)
  refine bodyPost_ret (results_cct Tryz.results79 rfl rfl l1 l2 rfl) rfl ?_
  have hP7 := hP6.out.wrote hw7 (by simp; omega)
  exact ⟨_, 1, 1, 0, [pcomp z], rfl, rfl, ⟨by simp [PackV.cells], .inr ⟨w3.heap.size, 1, _, rfl, by omega, hP7, by simp, by decide, by simp [PackV.cells], by simp [PackV.cells, pcomp]⟩⟩, below_wrote RS.out.below hw7 (by simp; omega)⟩
 ·have en : (no != 0) = true := by simpa using hno
  have RX := R2
  obtain ⟨rs, r1, r2⟩ := RX.out.r
  go_wp2_with (first
   | (refine wpList_load_blk rfl 97 _ rfl w.heap.size Z rfl RX.out.g Tryz.underlying97 rfl (by rw [hzs]; kernel_rfl) ?_)
   | (refine wS 97 22 rfl (w.heap.size + 1) rs Z rfl rfl r1 hzs r2 hzo ?_; intro w5 hb5 hw5; have RS := RX.out.stored (by decide) hzs hb5 hw5; obtain ⟨-, -, ⟨ds, d1, d2⟩, bs⟩ := RS)
   | (refine wS 53 2 rfl (w.heap.size + 1 + 1) ds didZ rfl rfl d1 rfl d2 (by simp [didZ, Value.oneCell']) ?_; intro w6 hb6 hw6; have l1 := run_loadVar_blk (P := Tryz.prog) (hb5.wrote hw6 (by simp)) 97 Tryz.underlying97 rfl (by rw [hzs]; kernel_rfl); have l2 := run_loadVar_blk (P := Tryz.prog) hb6 53 Tryz.underlying53 rfl (by kernel_rfl); have bb := below_wrote bs hw6 (by simp; omega)))
  refine bodyPost_ret (results_cct Tryz.results79 rfl rfl l1 l2 rfl) rfl ?_
  exact ⟨none, 0, 0, no, [], rfl, rfl, World.ownsRow_nil _ _ _ _, bb⟩
theorem r23_Hear (k z : Int) (w : World) : Calls Tryz.prog 79 #[.agg zS, .int .i64 k, .int .i64 z] w (RefS w) := by
 by_cases hk : k = 6
 ·subst hk; exact r23_Hear6 z w
 ·exact r23_HearN k z hk w
end
section
structure GS (Z : Array Value) : Prop where
 size : Z.size = 22
 one : ∀ v ∈ Z.toList, v.oneCell' = true
theorem gs_zero : GS zS := ⟨rfl, zS_one⟩
theorem GS.set {Z : Array Value} (h : GS Z) (i : Nat) (v : Value) (hv : v.oneCell' = true) : GS (Z.setIfInBounds i v) := by
 refine ⟨by simp [h.size], fun u hu => ?_⟩
 rw [Array.toList_setIfInBounds] at hu
 exact (List.mem_or_eq_of_mem_set hu).elim (h.one u) (fun e => e ▸ hv)
theorem GS.splice {Z cs : Array Value} (h : GS Z) (j : Nat) (hj : j + cs.size <= 22) (hc : ∀ v ∈ cs.toList, v.oneCell' = true) : GS (splice Z j cs) := by
 refine ⟨by rw [splice_size (by rw [h.size]; exact hj), h.size], fun u hu => ?_⟩
 unfold YtoinabapaeebfaaGreatDoor.splice at hu
 simp only [List.mem_append] at hu
 rcases hu with (hu | hu) | hu
 ·exact h.one u (List.mem_of_mem_take hu)
 ·exact hc u hu
 ·exact h.one u (List.mem_of_mem_drop hu)
theorem will_one (v : WillV) : v.vals.size = 4 /\ ∀ u ∈ v.vals.toList, u.oneCell' = true := by simp [WillV.vals, Value.oneCell']
def RefCO (w : World) (e : Ending) (w' : World) : Prop := ∃ gv is, e = .returned (.tuple #[.agg gv, .bool is]) /\ GS gv /\ Below w.heap.size w w'
theorem r23_ComesOn (clean : Bool) (keep : Int) (v : WillV) (has : Bool) (now : Int) (w : World) (ht : v.topic.length <= 1000000) :
  Calls Tryz.prog 136 #[.agg zS, .bool clean, .int .i64 keep, .agg v.vals, .bool has, .int .i64 now] w (RefCO w) := by
 have CW := hid fun W => r23_will v W ht
 have SZ := gs_zero
 obtain ⟨Z, hZ⟩ : ∃ Z, zS = Z := ⟨_, rfl⟩
 rw [hZ] at SZ ⊢
 have hv := will_one v
 obtain ⟨tp, bd, qs, rt⟩ := v
 unfold WillV.vals at hv CW ⊢
 dsimp only at ht
 clear hZ;by_cases h1 : keep < 0
 ·have e1 : decide (keep < 0) = true := decide_eq_true h1
  obtain ⟨W0, hW0⟩ : ∃ W0, W0 = (((w.alloc (.cells Z 97)).alloc (.cells #[.string ⟨tp.toArray⟩, .string ⟨bd.toArray⟩, .int .i64 qs, .bool rt] 67)).alloc (.cells zS 97)) := ⟨_, rfl⟩
  have G0 : Blk W0 w.heap.size Z 97 := by rw [hW0]; exact ((Blk.new w _ _).alloc _).alloc _
  have V0 : Blk W0 (w.heap.size + 1) #[.string ⟨tp.toArray⟩, .string ⟨bd.toArray⟩, .int .i64 qs, .bool rt] 67 := by rw [hW0]; exact (Blk.new_at _ _ _ _ (by simp)).alloc _
  have R0 : Blk W0 (w.heap.size + 1 + 1) zS 97 := by rw [hW0]; exact Blk.new_at _ _ _ _ (by simp)
  have B0 : Below w.heap.size w W0 := by
   rw [hW0]
   exact belw
  have hrs : zS.size = 22 := rfl
  obtain ⟨rs, hrse⟩ : ∃ rs, zS = rs := ⟨_, rfl⟩
  rw [hrse] at R0 hrs
  have r2 := hrs
  unfold zS at hW0
  clear hrse hrs;go_enter Tryz.func136, Tryz.ntmps136
  rw [hW0] at G0 R0 B0
  have GF := hid G0; have RF := hid R0; have BF := hid B0
  clear G0 R0 B0 V0 hW0
  go_wp2_with (first
   | (refine wpList_load_blk rfl 97 _ rfl w.heap.size Z rfl GF.out Tryz.underlying97 rfl (by rw [SZ.size]; kernel_rfl) ?_)
   | (refine wS 97 22 rfl (w.heap.size + 1 + 1) rs Z rfl rfl RF.out SZ.size r2 SZ.one ?_; intro w9 hb9 hw9))
  refine bodyPost_ret (results_ct1 Tryz.results136 rfl (run_loadVar_blk hb9 97 Tryz.underlying97 rfl (by rw [SZ.size]; kernel_rfl)) rfl) rfl ?_
  exact show RefCO _ _ _ from ⟨Z, _, rfl, SZ, below_wrote BF.out hw9 (by simp; omega)⟩
 have e1 : decide (keep < 0) = false := decide_eq_false h1
 by_cases h2 : 65535 < keep
 ·have e2 : decide (65535 < keep) = true := decide_eq_true h2
  obtain ⟨W0, hW0⟩ : ∃ W0, W0 = (((w.alloc (.cells Z 97)).alloc (.cells #[.string ⟨tp.toArray⟩, .string ⟨bd.toArray⟩, .int .i64 qs, .bool rt] 67)).alloc (.cells zS 97)) := ⟨_, rfl⟩
  have G0 : Blk W0 w.heap.size Z 97 := by rw [hW0]; exact ((Blk.new w _ _).alloc _).alloc _
  have V0 : Blk W0 (w.heap.size + 1) #[.string ⟨tp.toArray⟩, .string ⟨bd.toArray⟩, .int .i64 qs, .bool rt] 67 := by rw [hW0]; exact (Blk.new_at _ _ _ _ (by simp)).alloc _
  have R0 : Blk W0 (w.heap.size + 1 + 1) zS 97 := by rw [hW0]; exact Blk.new_at _ _ _ _ (by simp)
  have B0 : Below w.heap.size w W0 := by
   rw [hW0]
   exact belw
  have hrs : zS.size = 22 := rfl
  obtain ⟨rs, hrse⟩ : ∃ rs, zS = rs := ⟨_, rfl⟩
  rw [hrse] at R0 hrs
  have r2 := hrs
  unfold zS at hW0
  clear hrse hrs;go_enter Tryz.func136, Tryz.ntmps136
  rw [hW0] at G0 R0 B0
  have GF := hid G0; have RF := hid R0; have BF := hid B0
  clear G0 R0 B0 V0 hW0
  go_wp2_with (first
   | (refine wpList_load_blk rfl 97 _ rfl w.heap.size Z rfl GF.out Tryz.underlying97 rfl (by rw [SZ.size]; kernel_rfl) ?_)
   | (refine wS 97 22 rfl (w.heap.size + 1 + 1) rs Z rfl rfl RF.out SZ.size r2 SZ.one ?_; intro w9 hb9 hw9))
  refine bodyPost_ret (results_ct1 Tryz.results136 rfl (run_loadVar_blk hb9 97 Tryz.underlying97 rfl (by rw [SZ.size]; kernel_rfl)) rfl) rfl ?_
  exact show RefCO _ _ _ from ⟨Z, _, rfl, SZ, below_wrote BF.out hw9 (by simp; omega)⟩
 have e2 : decide (65535 < keep) = false := decide_eq_false h2
 by_cases h3 : now < 0
 ·have e3 : decide (now < 0) = true := decide_eq_true h3
  obtain ⟨W0, hW0⟩ : ∃ W0, W0 = (((w.alloc (.cells Z 97)).alloc (.cells #[.string ⟨tp.toArray⟩, .string ⟨bd.toArray⟩, .int .i64 qs, .bool rt] 67)).alloc (.cells zS 97)) := ⟨_, rfl⟩
  have G0 : Blk W0 w.heap.size Z 97 := by rw [hW0]; exact ((Blk.new w _ _).alloc _).alloc _
  have V0 : Blk W0 (w.heap.size + 1) #[.string ⟨tp.toArray⟩, .string ⟨bd.toArray⟩, .int .i64 qs, .bool rt] 67 := by rw [hW0]; exact (Blk.new_at _ _ _ _ (by simp)).alloc _
  have R0 : Blk W0 (w.heap.size + 1 + 1) zS 97 := by rw [hW0]; exact Blk.new_at _ _ _ _ (by simp)
  have B0 : Below w.heap.size w W0 := by
   rw [hW0]
   exact belw
  have hrs : zS.size = 22 := rfl
  obtain ⟨rs, hrse⟩ : ∃ rs, zS = rs := ⟨_, rfl⟩
  rw [hrse] at R0 hrs
  have r2 := hrs
  unfold zS at hW0
  clear hrse hrs;go_enter Tryz.func136, Tryz.ntmps136
  rw [hW0] at G0 R0 B0
  have GF := hid G0; have RF := hid R0; have BF := hid B0
  clear G0 R0 B0 V0 hW0
  go_wp2_with (first
   | (refine wpList_load_blk rfl 97 _ rfl w.heap.size Z rfl GF.out Tryz.underlying97 rfl (by rw [SZ.size]; kernel_rfl) ?_)
   | (refine wS 97 22 rfl (w.heap.size + 1 + 1) rs Z rfl rfl RF.out SZ.size r2 SZ.one ?_; intro w9 hb9 hw9))
  refine bodyPost_ret (results_ct1 Tryz.results136 rfl (run_loadVar_blk hb9 97 Tryz.underlying97 rfl (by rw [SZ.size]; kernel_rfl)) rfl) rfl ?_
  exact show RefCO _ _ _ from ⟨Z, _, rfl, SZ, below_wrote BF.out hw9 (by simp; omega)⟩
 have e3 : decide (now < 0) = false := decide_eq_false h3
 cases has with
 | false =>
  obtain ⟨W0, hW0⟩ : ∃ W0, W0 = (((w.alloc (.cells Z 97)).alloc (.cells #[.string ⟨tp.toArray⟩, .string ⟨bd.toArray⟩, .int .i64 qs, .bool rt] 67)).alloc (.cells zS 97)) := ⟨_, rfl⟩
  have G0 : Blk W0 w.heap.size Z 97 := by rw [hW0]; exact ((Blk.new w _ _).alloc _).alloc _
  have V0 : Blk W0 (w.heap.size + 1) #[.string ⟨tp.toArray⟩, .string ⟨bd.toArray⟩, .int .i64 qs, .bool rt] 67 := by rw [hW0]; exact (Blk.new_at _ _ _ _ (by simp)).alloc _
  have R0 : Blk W0 (w.heap.size + 1 + 1) zS 97 := by rw [hW0]; exact Blk.new_at _ _ _ _ (by simp)
  have B0 : Below w.heap.size w W0 := by
   rw [hW0]
   exact belw
  have hrs : zS.size = 22 := rfl
  obtain ⟨rs, hrse⟩ : ∃ rs, zS = rs := ⟨_, rfl⟩
  rw [hrse] at R0 hrs
  have r2 := hrs
  unfold zS at hW0
  clear hrse hrs;go_enter Tryz.func136, Tryz.ntmps136
  rw [hW0] at G0 R0 B0
  have G1 := hid G0; have R1 := hid R0; have B1 := hid B0
  clear G0 R0 B0 V0 hW0
  go_wp2_with (first
   | (refine wpList_store_cell rfl 4 97 _ _ rfl (fun w => by kernel_rfl) w.heap.size 15 Z (.bool true) rfl rfl G1.out (by rw [SZ.size]; decide) rfl rfl ?_; intro w3 hb3 hw3; have S3 := SZ.set 15 (.bool true) rfl; obtain ⟨Z3, hZ3⟩ : ∃ Z3, Z.setIfInBounds 15 (.bool true) = Z3 := ⟨_, rfl⟩; rw [hZ3] at hb3 S3; clear hZ3; have R3' := hid (R1.out.wrote hw3 (by simp <;> omega)); have B3 := hid (below_wrote B1.out hw3 (by simp)))
   | (refine wpList_store_cell rfl 4 97 _ _ rfl (fun w => by kernel_rfl) w.heap.size 14 Z3 (.bool clean) rfl rfl hb3 (by rw [S3.size]; decide) rfl rfl ?_; intro w4 hb4 hw4; have S4 := S3.set 14 (.bool clean) rfl; obtain ⟨Z4, hZ4⟩ : ∃ Z4, Z3.setIfInBounds 14 (.bool clean) = Z4 := ⟨_, rfl⟩; rw [hZ4] at hb4 S4; clear hZ4; have R4 := hid (R3'.out.wrote hw4 (by simp <;> omega)); have B4 := hid (below_wrote B3.out hw4 (by simp)))
   | (refine wpList_store_cell rfl 2 97 _ _ rfl (fun w => by kernel_rfl) w.heap.size 16 Z4 (.int .i64 keep) rfl rfl hb4 (by rw [S4.size]; decide) rfl rfl ?_; intro w5 hb5 hw5; have S5 := S4.set 16 (.int .i64 keep) rfl; obtain ⟨Z5, hZ5⟩ : ∃ Z5, Z4.setIfInBounds 16 (.int .i64 keep) = Z5 := ⟨_, rfl⟩; rw [hZ5] at hb5 S5; clear hZ5; have R5 := hid (R4.out.wrote hw5 (by simp <;> omega)); have B5 := hid (below_wrote B4.out hw5 (by simp)))
   | (refine wpList_store_cell rfl 2 97 _ _ rfl (fun w => by kernel_rfl) w.heap.size 17 Z5 (.int .i64 now) rfl rfl hb5 (by rw [S5.size]; decide) rfl rfl ?_; intro w6 hb6 hw6; have S6 := S5.set 17 (.int .i64 now) rfl; obtain ⟨Z6, hZ6⟩ : ∃ Z6, Z5.setIfInBounds 17 (.int .i64 now) = Z6 := ⟨_, rfl⟩; rw [hZ6] at hb6 S6; clear hZ6; have R6 := hid (R5.out.wrote hw6 (by simp <;> omega)); have B6 := hid (below_wrote B5.out hw6 (by simp)))
   | (refine wpList_store_mid rfl 67 97 _ _ rfl 4 (fun w => by kernel_rfl) w.heap.size 18 Z6 #[.string ⟨#[]⟩, .string ⟨#[]⟩, .int .i64 0, .bool false] rfl rfl hb6 rfl (by rw [S6.size]; decide) (by simp [Value.oneCell']) ?_; intro w7 hb7 hw7; have SF := S6.splice 18 (cs := #[.string ⟨#[]⟩, .string ⟨#[]⟩, .int .i64 0, .bool false]) (by decide) (by simp [Value.oneCell']); obtain ⟨ZF, hZX⟩ : ∃ ZF, splice Z6 18 #[.string ⟨#[]⟩, .string ⟨#[]⟩, .int .i64 0, .bool false] = ZF := ⟨_, rfl⟩; rw [hZX] at hb7 SF; clear hZX; have GF := hid hb7; have RF := hid (R6.out.wrote hw7 (by simp <;> omega)); have BF := hid (below_wrote B6.out hw7 (by simp)))
   | (refine wpList_load_blk rfl 97 _ rfl w.heap.size ZF rfl GF.out Tryz.underlying97 rfl (by rw [SF.size]; kernel_rfl) ?_)
   | (refine wS 97 22 rfl (w.heap.size + 1 + 1) rs ZF rfl rfl RF.out SF.size r2 SF.one ?_; intro w9 hb9 hw9))
  refine bodyPost_ret (results_ct1 Tryz.results136 rfl (run_loadVar_blk hb9 97 Tryz.underlying97 rfl (by rw [SF.size]; kernel_rfl)) rfl) rfl ?_
  exact show RefCO _ _ _ from ⟨ZF, _, rfl, SF, below_wrote BF.out hw9 (by simp; omega)⟩
 | true =>
  obtain ⟨W0, hW0⟩ : ∃ W0, W0 = (((w.alloc (.cells Z 97)).alloc (.cells #[.string ⟨tp.toArray⟩, .string ⟨bd.toArray⟩, .int .i64 qs, .bool rt] 67)).alloc (.cells zS 97)) := ⟨_, rfl⟩
  have G0 : Blk W0 w.heap.size Z 97 := by rw [hW0]; exact ((Blk.new w _ _).alloc _).alloc _
  have V0 : Blk W0 (w.heap.size + 1) #[.string ⟨tp.toArray⟩, .string ⟨bd.toArray⟩, .int .i64 qs, .bool rt] 67 := by rw [hW0]; exact (Blk.new_at _ _ _ _ (by simp)).alloc _
  have R0 : Blk W0 (w.heap.size + 1 + 1) zS 97 := by rw [hW0]; exact Blk.new_at _ _ _ _ (by simp)
  have B0 : Below w.heap.size w W0 := by
   rw [hW0]
   exact belw
  have hrs : zS.size = 22 := rfl
  obtain ⟨rs, hrse⟩ : ∃ rs, zS = rs := ⟨_, rfl⟩
  rw [hrse] at R0 hrs
  have r2 := hrs
  unfold zS at hW0
  clear hrse hrs;go_enter Tryz.func136, Tryz.ntmps136
  rw [hW0] at G0 R0 B0 V0
  have V0 := hid V0;go_wp2_with fail
  refine (CW.out _).mono ?_
  rintro e w1 ⟨⟨b, rfl⟩, hb1⟩
  have G1 := hid (G0.below hb1); have R1 := hid (R0.below hb1); have B1 := hid (B0.trans (hb1.mono B0.size)); have V1 := hid (V0.out.below hb1)
  clear G0 R0 B0 V0 hW0;cases b with
  | false =>
   go_wp2_with (first
    | (refine wpList_load_blk rfl 97 _ rfl w.heap.size Z rfl G1.out Tryz.underlying97 rfl (by rw [SZ.size]; kernel_rfl) ?_)
    | (refine wS 97 22 rfl (w.heap.size + 1 + 1) rs Z rfl rfl R1.out SZ.size r2 SZ.one ?_; intro w9 hb9 hw9))
   refine bodyPost_ret (results_ct1 Tryz.results136 rfl (run_loadVar_blk hb9 97 Tryz.underlying97 rfl (by rw [SZ.size]; kernel_rfl)) rfl) rfl ?_
   exact show RefCO _ _ _ from ⟨Z, _, rfl, SZ, below_wrote B1.out hw9 (by simp; omega)⟩
  | true =>
   go_wp2_with (first
    | (refine wpList_store_cell rfl 4 97 _ _ rfl (fun w => by kernel_rfl) w.heap.size 15 Z (.bool true) rfl rfl G1.out (by rw [SZ.size]; decide) rfl rfl ?_; intro w3 hb3 hw3; have S3 := SZ.set 15 (.bool true) rfl; obtain ⟨Z3, hZ3⟩ : ∃ Z3, Z.setIfInBounds 15 (.bool true) = Z3 := ⟨_, rfl⟩; rw [hZ3] at hb3 S3; clear hZ3; have R3' := hid (R1.out.wrote hw3 (by simp <;> omega)); have B3 := hid (below_wrote B1.out hw3 (by simp)); have V3 := hid (V1.out.wrote hw3 (by simp)))
    | (refine wpList_store_cell rfl 4 97 _ _ rfl (fun w => by kernel_rfl) w.heap.size 14 Z3 (.bool clean) rfl rfl hb3 (by rw [S3.size]; decide) rfl rfl ?_; intro w4 hb4 hw4; have S4 := S3.set 14 (.bool clean) rfl; obtain ⟨Z4, hZ4⟩ : ∃ Z4, Z3.setIfInBounds 14 (.bool clean) = Z4 := ⟨_, rfl⟩; rw [hZ4] at hb4 S4; clear hZ4; have R4 := hid (R3'.out.wrote hw4 (by simp <;> omega)); have B4 := hid (below_wrote B3.out hw4 (by simp)); have V4 := hid (V3.out.wrote hw4 (by simp)))
    | (refine wpList_store_cell rfl 2 97 _ _ rfl (fun w => by kernel_rfl) w.heap.size 16 Z4 (.int .i64 keep) rfl rfl hb4 (by rw [S4.size]; decide) rfl rfl ?_; intro w5 hb5 hw5; have S5 := S4.set 16 (.int .i64 keep) rfl; obtain ⟨Z5, hZ5⟩ : ∃ Z5, Z4.setIfInBounds 16 (.int .i64 keep) = Z5 := ⟨_, rfl⟩; rw [hZ5] at hb5 S5; clear hZ5; have R5 := hid (R4.out.wrote hw5 (by simp <;> omega)); have B5 := hid (below_wrote B4.out hw5 (by simp)); have V5 := hid (V4.out.wrote hw5 (by simp)))
    | (refine wpList_store_cell rfl 2 97 _ _ rfl (fun w => by kernel_rfl) w.heap.size 17 Z5 (.int .i64 now) rfl rfl hb5 (by rw [S5.size]; decide) rfl rfl ?_; intro w6 hb6 hw6; have S6 := S5.set 17 (.int .i64 now) rfl; obtain ⟨Z6, hZ6⟩ : ∃ Z6, Z5.setIfInBounds 17 (.int .i64 now) = Z6 := ⟨_, rfl⟩; rw [hZ6] at hb6 S6; clear hZ6; have R6 := hid (R5.out.wrote hw6 (by simp <;> omega)); have B6 := hid (below_wrote B5.out hw6 (by simp)); have V6 := hid (V5.out.wrote hw6 (by simp)))
    | (refine wpList_store_mid rfl 67 97 _ _ rfl 4 (fun w => by kernel_rfl) w.heap.size 18 Z6 #[.string ⟨#[]⟩, .string ⟨#[]⟩, .int .i64 0, .bool false] rfl rfl hb6 rfl (by rw [S6.size]; decide) (by simp [Value.oneCell']) ?_; intro w7 hb7 hw7; have SX := S6.splice 18 (cs := #[.string ⟨#[]⟩, .string ⟨#[]⟩, .int .i64 0, .bool false]) (by decide) (by simp [Value.oneCell']); obtain ⟨ZX, hZX⟩ : ∃ ZX, splice Z6 18 #[.string ⟨#[]⟩, .string ⟨#[]⟩, .int .i64 0, .bool false] = ZX := ⟨_, rfl⟩; rw [hZX] at hb7 SX; clear hZX; have GX := hid hb7; have RX := hid (R6.out.wrote hw7 (by simp <;> omega)); have BX := hid (below_wrote B6.out hw7 (by simp)); have V7 := hid (V6.out.wrote hw7 (by simp)))
    | (refine wpList_load_blk rfl 67 _ rfl (w.heap.size + 1) #[.string ⟨tp.toArray⟩, .string ⟨bd.toArray⟩, .int .i64 qs, .bool rt] rfl V7.out Tryz.underlying67 rfl (by rw [hv.1]; kernel_rfl) ?_)
    | (refine wpList_store_mid rfl 67 97 _ _ rfl 4 (fun w => by kernel_rfl) w.heap.size 18 ZX #[.string ⟨tp.toArray⟩, .string ⟨bd.toArray⟩, .int .i64 qs, .bool rt] rfl rfl GX.out hv.1 (by rw [SX.size]; decide) hv.2 ?_; intro w8 hb8 hw8; have SF := SX.splice 18 (cs := #[.string ⟨tp.toArray⟩, .string ⟨bd.toArray⟩, .int .i64 qs, .bool rt]) (by rw [hv.1]; decide) hv.2; obtain ⟨ZF, hZF⟩ : ∃ ZF, splice ZX 18 #[.string ⟨tp.toArray⟩, .string ⟨bd.toArray⟩, .int .i64 qs, .bool rt] = ZF := ⟨_, rfl⟩; rw [hZF] at hb8 SF; clear hZF; have GF := hid hb8; have RF := hid (RX.out.wrote hw8 (by simp <;> omega)); have BF := hid (below_wrote BX.out hw8 (by simp)))
    | (refine wpList_load_blk rfl 97 _ rfl w.heap.size ZF rfl GF.out Tryz.underlying97 rfl (by rw [SF.size]; kernel_rfl) ?_)
    | (refine wS 97 22 rfl (w.heap.size + 1 + 1) rs ZF rfl rfl RF.out SF.size r2 SF.one ?_; intro w9 hb9 hw9))
   refine bodyPost_ret (results_ct1 Tryz.results136 rfl (run_loadVar_blk hb9 97 Tryz.underlying97 rfl (by rw [SF.size]; kernel_rfl)) rfl) rfl ?_
   exact show RefCO _ _ _ from ⟨ZF, _, rfl, SF, below_wrote BF.out hw9 (by simp; omega)⟩
end
section
structure AcV where
 kind : Int
 qos : Int
 topic : List UInt8
 body : List UInt8
 truth : Bool
 has : Bool
 will : WillV
 pack : Int
 n : Int
 now : Int
def AcV.cells (a : AcV) : Array Value := #[.int .i64 a.kind, .int .i64 a.qos, .string ⟨a.topic.toArray⟩, .string ⟨a.body.toArray⟩, .bool a.truth, .bool a.has, .string ⟨a.will.topic.toArray⟩, .string ⟨a.will.body.toArray⟩, .int .i64 a.will.qos, .bool a.will.retain, .int .i64 a.pack, .int .i64 a.n, .int .i64 a.now]
def XS.oth (x : XS) (a : AcV) : XS :=
 if a.kind = 1 then x.comes a.truth a.n (if a.has = true then some a.will else none) a.now else if a.kind = 2 then x.goes else if a.kind = 3 then x.hears a.now else x
def eqWill (x y : WillV) : Bool := decide (x.topic = y.topic /\ x.body = y.body /\ x.qos = y.qos /\ x.retain = y.retain)
theorem run_wills_eq (x y : WillV) (w : World) : (binOp .eql 67 (.agg x.vals) (.agg y.vals)).run Tryz.prog w = .ok (.bool (eqWill x y)) w := by
 obtain ⟨at_, ab, aq, ar⟩ := x
 obtain ⟨bt, bb, bq, br⟩ := y
 unfold WillV.vals eqWill
 go_simp;by_cases h1 : at_ = bt
 ·by_cases h2 : ab = bb
  ·by_cases h3 : aq = bq
   ·by_cases h4 : ar = br
    ·simp [h1, h2, h3, h4]
    ·simp [h1, h2, h3, h4]
   ·simp [h1, h2, h3]
  ·simp [h1, h2]
 ·simp [h1]
theorem run_wills_guard (x y : WillV) (s1 s2 : Operand) (w : World) : (eqGuard .eql 67 s1 s2 (.agg x.vals) (.agg y.vals)).run Tryz.prog w = .ok () w := by
 obtain ⟨at_, ab, aq, ar⟩ := x
 obtain ⟨bt, bb, bq, br⟩ := y
 unfold WillV.vals
 go_simp
def OthP (w : World) (B : Nat) (S : XLay) (x' : XS) (e : Ending) (w' : World) : Prop :=
 ∃ gv b wv, e = .returned (.tuple #[.agg gv, .bool b]) /\ GS gv /\ XB w' B { S with wv := wv } x' /\ Wrote S.foot w w' /\ (∀ c ∈ wv.toList, c ∈ S.wv.toList \/ w.heap.size <= c)
structure O3 (w W : World) (Z : Array Value) (a : AcV) : Prop where
 g : Blk W w.heap.size Z 97
 x : Blk W (w.heap.size + 1) a.cells 101
 r : ∃ rs, Blk W (w.heap.size + 1 + 1) rs 97 /\ rs.size = 22
 below : w.heap.size <= W.heap.size
theorem O3.wrote {w W W' : World} {Z : Array Value} {a : AcV} (h : O3 w W Z a) {M : List Nat} (hw : Wrote M W W') (hM : w.heap.size ∉ M /\ w.heap.size + 1 ∉ M /\ w.heap.size + 1 + 1 ∉ M) : O3 w W' Z a := by
 obtain ⟨g, x, ⟨rs, r1, r2⟩, b⟩ := h
 exact ⟨g.wrote hw hM.1, x.wrote hw hM.2.1, ⟨rs, r1.wrote hw hM.2.2, r2⟩, Nat.le_trans b hw.size⟩
theorem O3.bel {w W W' : World} {Z : Array Value} {a : AcV} (h : O3 w W Z a) (hb : Below W.heap.size W W') : O3 w W' Z a := h.wrote (Wrote.of_below (M := []) hb) (by simp)
theorem O3.start (w : World) (Z Z1 : Array Value) (a : AcV) (hz : Z1.size = 22) : O3 w (((w.alloc (.cells Z 97)).alloc (.cells a.cells 101)).alloc (.cells Z1 97)) Z a := by
 refine ⟨((Blk.new w _ _).alloc _).alloc _, (Blk.new_at _ _ _ _ (by simp)).alloc _, ⟨Z1, Blk.new_at _ _ _ _ (by simp), hz⟩, by simp; omega⟩
theorem oth_none {w : World} {B : Nat} {S : XLay} {x : XS} (h : XB w B S x) (a : AcV) (h1 : a.kind ≠ 1) (h2 : a.kind ≠ 2) (h3 : a.kind ≠ 3) :
  Calls Tryz.prog 80 #[.pointer (some ⟨S.p, 0, none⟩), .agg zS, .agg a.cells] w (OthP w B S x) := by
 have SZ := gs_zero
 obtain ⟨Z, hZ⟩ : ∃ Z, zS = Z := ⟨_, rfl⟩
 rw [hZ] at SZ ⊢
 obtain ⟨W0, hW0⟩ : ∃ W0, W0 = (((w.alloc (.cells Z 97)).alloc (.cells a.cells 101)).alloc (.cells zS 97)) := ⟨_, rfl⟩
 have O0 := hid (O3.start w Z zS a rfl)
 rw [<- hW0] at O0
 have B0 : Below w.heap.size w W0 := by
  rw [hW0]
  exact belw
 have B0 := hid B0;have H0 := hid (h.below B0.out)
 have c0 : W0.cell? ⟨w.heap.size + 1, 0, none⟩ = some (.int .i64 a.kind) := O0.out.x.cell 0
 have c4 : W0.cell? ⟨w.heap.size + 1, 4, none⟩ = some (.bool a.truth) := O0.out.x.cell 4
 have c5 : W0.cell? ⟨w.heap.size + 1, 5, none⟩ = some (.bool a.has) := O0.out.x.cell 5
 have c11 : W0.cell? ⟨w.heap.size + 1, 11, none⟩ = some (.int .i64 a.n) := O0.out.x.cell 11
 have c12 : W0.cell? ⟨w.heap.size + 1, 12, none⟩ = some (.int .i64 a.now) := O0.out.x.cell 12
 unfold zS AcV.cells at hW0
 rw [hW0] at c0 c4 c5 c11 c12
 have hnf : ∀ n, w.heap.size <= n -> n ∉ S.foot := fun n hn => h.foot_lt hn
 replace hnf := hid hnf;have hgl := h.ob.tz.lt
 have f1 : (a.kind == 1) = false := by simpa using h1
 have f2 : (a.kind == 2) = false := by simpa using h2
 have f3 : (a.kind == 3) = false := by simpa using h3
 go_enter Tryz.func80, Tryz.ntmps80
 unfold AcV.cells
 go_upto_region 24 with (fail)
 rw [<- hW0]
 clear hW0 c0 c4 c5 c11 c12;obtain ⟨rs, r1, r2⟩ := O0.out.r
 go_wp2_with (first
  | (refine wpList_load_blk rfl 97 _ rfl w.heap.size Z rfl O0.out.g Tryz.underlying97 rfl (by rw [SZ.size]; kernel_rfl) ?_)
  | (refine wS 97 22 rfl (w.heap.size + 1 + 1) rs Z rfl rfl r1 SZ.size r2 SZ.one ?_; intro w9 hb9 hw9))
 refine bodyPost_ret (results_ct1 Tryz.results80 rfl (run_loadVar_blk hb9 97 Tryz.underlying97 rfl (by rw [SZ.size]; kernel_rfl)) rfl) rfl ?_
 exact show OthP _ _ _ _ _ _ from ⟨Z, _, S.wv, rfl, SZ, H0.out.out hw9 (by simpa using hnf.out _ (by omega)) (by simp only [List.mem_singleton]; omega), (Wrote.of_below (M := S.foot) B0.out).andNew hw9 (by simp; omega), fun c hc => .inl hc⟩
theorem oth_heard {w : World} {B : Nat} {S : XLay} {x : XS} (h : XB w B S x) (a : AcV) (hk : a.kind = 3) :
  Calls Tryz.prog 80 #[.pointer (some ⟨S.p, 0, none⟩), .agg zS, .agg a.cells] w (OthP w B S (x.hears a.now)) := by
 have SZ := gs_zero
 have hz15 : zS[15]? = some (.bool false) := rfl
 obtain ⟨Z, hZ⟩ : ∃ Z, zS = Z := ⟨_, rfl⟩
 rw [hZ] at SZ hz15 ⊢
 obtain ⟨W0, hW0⟩ : ∃ W0, W0 = (((w.alloc (.cells Z 97)).alloc (.cells a.cells 101)).alloc (.cells zS 97)) := ⟨_, rfl⟩
 have O0 := hid (O3.start w Z zS a rfl)
 rw [<- hW0] at O0
 have B0 : Below w.heap.size w W0 := by
  rw [hW0]
  exact belw
 have B0 := hid B0;have H0 := hid (h.below B0.out)
 have c0 : W0.cell? ⟨w.heap.size + 1, 0, none⟩ = some (.int .i64 a.kind) := O0.out.x.cell 0
 have c4 : W0.cell? ⟨w.heap.size + 1, 4, none⟩ = some (.bool a.truth) := O0.out.x.cell 4
 have c5 : W0.cell? ⟨w.heap.size + 1, 5, none⟩ = some (.bool a.has) := O0.out.x.cell 5
 have c11 : W0.cell? ⟨w.heap.size + 1, 11, none⟩ = some (.int .i64 a.n) := O0.out.x.cell 11
 have c12 : W0.cell? ⟨w.heap.size + 1, 12, none⟩ = some (.int .i64 a.now) := O0.out.x.cell 12
 unfold zS AcV.cells at hW0
 rw [hW0] at c0 c4 c5 c11 c12
 have hnf : ∀ n, w.heap.size <= n -> n ∉ S.foot := fun n hn => h.foot_lt hn
 replace hnf := hid hnf;have hgl := h.ob.tz.lt
 rw [hk] at hW0 c0 c4 c5 c11 c12
 obtain ⟨hd, hde⟩ : ∃ hd : Int, (if a.now < 0 then (2 : Int) else 0) = hd := ⟨_, rfl⟩
 have CH := hid (ses_Heard H0.out a.now)
 rw [hde] at CH
 obtain ⟨x', hx'⟩ : ∃ x', x.hears a.now = x' := ⟨_, rfl⟩
 rw [show ({ x with heard := if 0 <= a.now /\ x.on = true then a.now else x.heard } : XS) = x' from hx'] at CH
 rw [hx']
 clear hx' hde;by_cases hn : a.now < 0
 ·have e1 : decide (a.now < 0) = true := decide_eq_true hn
  go_enter Tryz.func80, Tryz.ntmps80
  unfold AcV.cells
  rw [hk]
  go_wp2_with fail
  rw [<- hW0]
  clear hW0 c0 c4 c5 c11 c12;refine CH.out.mono ?_
  rintro e w1 ⟨rfl, hx1, hst⟩
  have O1 := hid (O0.out.wrote hst.wrote ⟨hnf.out _ (by omega), hnf.out _ (by omega), hnf.out _ (by omega)⟩)
  have k12 : w1.cell? ⟨w.heap.size + 1, 12, none⟩ = some (.int .i64 a.now) := O1.out.x.cell 12
  obtain ⟨rs, r1, r2⟩ := O1.out.r
  have hx1 := hid hx1;have hst := hid hst
  go_wp2_with (first
   | (refine wpList_load_blk rfl 97 _ rfl w.heap.size Z rfl O1.out.g Tryz.underlying97 rfl (by rw [SZ.size]; kernel_rfl) ?_)
   | (refine wS 97 22 rfl (w.heap.size + 1 + 1) rs Z rfl rfl r1 SZ.size r2 SZ.one ?_; intro w9 hb9 hw9))
  refine bodyPost_ret (results_ct1 Tryz.results80 rfl (run_loadVar_blk hb9 97 Tryz.underlying97 rfl (by rw [SZ.size]; kernel_rfl)) rfl) rfl ?_
  exact show OthP _ _ _ _ _ _ from ⟨Z, _, S.wv, rfl, SZ, hx1.out.out hw9 (by simpa using hnf.out _ (by omega)) (by simp only [List.mem_singleton]; omega), ((Wrote.of_below (M := S.foot) B0.out).trans hst.out.wrote).andNew hw9 (by simp; omega), fun c hc => .inl hc⟩
 ·have e1 : decide (a.now < 0) = false := decide_eq_false hn
  go_enter Tryz.func80, Tryz.ntmps80
  unfold AcV.cells
  rw [hk]
  go_wp2_with fail
  rw [<- hW0]
  clear hW0 c0 c4 c5 c11 c12;refine CH.out.mono ?_
  rintro e w1 ⟨rfl, hx1, hst⟩
  have O1 := hid (O0.out.wrote hst.wrote ⟨hnf.out _ (by omega), hnf.out _ (by omega), hnf.out _ (by omega)⟩)
  have k12 : w1.cell? ⟨w.heap.size + 1, 12, none⟩ = some (.int .i64 a.now) := O1.out.x.cell 12
  have k15 : w1.cell? ⟨w.heap.size, 15, none⟩ = some (.bool false) := (O1.out.g.cell 15).trans hz15
  obtain ⟨rs, r1, r2⟩ := O1.out.r
  have hx1 := hid hx1;have hst := hid hst
  go_wp2_with (first
   | (refine wpList_load_blk rfl 97 _ rfl w.heap.size Z rfl O1.out.g Tryz.underlying97 rfl (by rw [SZ.size]; kernel_rfl) ?_)
   | (refine wS 97 22 rfl (w.heap.size + 1 + 1) rs Z rfl rfl r1 SZ.size r2 SZ.one ?_; intro w9 hb9 hw9))
  refine bodyPost_ret (results_ct1 Tryz.results80 rfl (run_loadVar_blk hb9 97 Tryz.underlying97 rfl (by rw [SZ.size]; kernel_rfl)) rfl) rfl ?_
  exact show OthP _ _ _ _ _ _ from ⟨Z, _, S.wv, rfl, SZ, hx1.out.out hw9 (by simpa using hnf.out _ (by omega)) (by simp only [List.mem_singleton]; omega), ((Wrote.of_below (M := S.foot) B0.out).trans hst.out.wrote).andNew hw9 (by simp; omega), fun c hc => .inl hc⟩
theorem oth_off {w : World} {B : Nat} {S : XLay} {x : XS} (h : XB w B S x) (a : AcV) (hk : a.kind = 2) :
  Calls Tryz.prog 80 #[.pointer (some ⟨S.p, 0, none⟩), .agg zS, .agg a.cells] w (OthP w B S x.goes) := by
 have SZ := gs_zero
 have hz18 : ∀ (j : Nat) (v : Value), (noWill.vals.toList)[j]? = some v -> zS[18 + j]? = some v := by
  intro j v hj
  have hlt : j < 4 := (List.getElem?_eq_some_iff.1 hj).1
  obtain rfl | rfl | rfl | rfl : j = 0 \/ j = 1 \/ j = 2 \/ j = 3 := by omega
  all_goals exact hj
 obtain ⟨Z, hZ⟩ : ∃ Z, zS = Z := ⟨_, rfl⟩
 rw [hZ] at SZ hz18 ⊢
 obtain ⟨W0, hW0⟩ : ∃ W0, W0 = (((w.alloc (.cells Z 97)).alloc (.cells a.cells 101)).alloc (.cells zS 97)) := ⟨_, rfl⟩
 have O0 := hid (O3.start w Z zS a rfl)
 rw [<- hW0] at O0
 have B0 : Below w.heap.size w W0 := by
  rw [hW0]
  exact belw
 have B0 := hid B0;have H0 := hid (h.below B0.out)
 have c0 : W0.cell? ⟨w.heap.size + 1, 0, none⟩ = some (.int .i64 a.kind) := O0.out.x.cell 0
 have c4 : W0.cell? ⟨w.heap.size + 1, 4, none⟩ = some (.bool a.truth) := O0.out.x.cell 4
 have c5 : W0.cell? ⟨w.heap.size + 1, 5, none⟩ = some (.bool a.has) := O0.out.x.cell 5
 have c11 : W0.cell? ⟨w.heap.size + 1, 11, none⟩ = some (.int .i64 a.n) := O0.out.x.cell 11
 have c12 : W0.cell? ⟨w.heap.size + 1, 12, none⟩ = some (.int .i64 a.now) := O0.out.x.cell 12
 unfold zS AcV.cells at hW0
 rw [hW0] at c0 c4 c5 c11 c12
 have hnf : ∀ n, w.heap.size <= n -> n ∉ S.foot := fun n hn => h.foot_lt hn
 replace hnf := hid hnf;have hgl := h.ob.tz.lt
 rw [hk] at hW0 c0 c4 c5 c11 c12
 have CH := hid (ses_Off H0.out)
 obtain ⟨x', hx'⟩ : ∃ x', x.goes = x' := ⟨_, rfl⟩
 rw [show ({ x with on := false, will := none } : XS) = x' from hx'] at CH
 rw [hx']
 obtain ⟨u, hu⟩ : ∃ u, x.will.getD noWill = u := ⟨_, rfl⟩
 obtain ⟨ub, hub⟩ : ∃ ub, x.will.isSome = ub := ⟨_, rfl⟩
 rw [hu, hub] at CH
 have hu1 := will_one u
 have hn1 := will_one noWill
 have HE := fun W => run_wills_eq u noWill W
 have HG := fun s1 s2 W => run_wills_guard u noWill s1 s2 W
 obtain ⟨U, hU⟩ : ∃ U, u.vals = U := ⟨_, rfl⟩
 rw [hU] at CH hu1 HE HG
 obtain ⟨N, hN⟩ : ∃ N, noWill.vals = N := ⟨_, rfl⟩
 have hN0 : N[0]? = some (.string ⟨#[]⟩) := by rw [<- hN]; rfl
 have hNe : #[.string ⟨#[]⟩, .string ⟨#[]⟩, .int .i64 0, .bool false] = N := hN
 rw [hN] at hn1 HE HG hz18
 obtain ⟨be, hbe⟩ : ∃ be, eqWill u noWill = be := ⟨_, rfl⟩
 rw [hbe] at HE
 clear hx' hu hub hU hN hbe;go_enter Tryz.func80, Tryz.ntmps80
 unfold AcV.cells
 rw [hk]
 go_wp2_with fail
 rw [<- hW0]
 clear hW0 c0 c4 c5 c11 c12;refine CH.out.mono ?_
 rintro e w1 ⟨rfl, hx1, hst⟩
 have O1 := hid (O0.out.wrote hst.wrote ⟨hnf.out _ (by omega), hnf.out _ (by omega), hnf.out _ (by omega)⟩)
 have hx1 := hid hx1;have hst := hid hst;have hs1 : w.heap.size + 1 + 1 < w1.heap.size := by obtain ⟨rs, r1, r2⟩ := O1.out.r; exact r1.lt
 go_wp2_with (first
  | (refine wS 67 4 rfl w1.heap.size _ U rfl rfl (Blk.new w1 _ _) hu1.1 hn1.1 hu1.2 ?_; intro w2 hb2 hw2; have B2 := hid (((Below.refl w1.heap.size w1).alloc (Nat.le_refl _) (.cells N 67)).trans (hw2.below (by simp) (by simp))); have O2 := hid (O1.out.bel B2.out))
  | (refine wpList_load_mid rfl 67 _ rfl w.heap.size 18 rfl N.toList _ (fun j v hj => (O2.out.g.cell (18 + j)).trans (hz18 j v hj)) Tryz.underlying67 rfl (by rw [Array.length_toList, hn1.1]; kernel_rfl) ?_)
  | (refine wS 67 4 rfl w2.heap.size _ N.toList.toArray rfl rfl (Blk.new w2 _ _) (by simpa using hn1.1) hn1.1 (by simpa using hn1.2) ?_; intro w3 hb3 hw3; have hs2 : w1.heap.size < w2.heap.size := hb2.lt; have B3 := hid (((Below.refl w2.heap.size w2).alloc (Nat.le_refl _) (.cells N 67)).trans (hw3.below (by simp) (by simp))); have O3' := hid (O2.out.bel B3.out); have U3 := hid (hb2.below B3.out))
  | (refine wpList_store_cell rfl 4 97 _ _ rfl (fun w => by kernel_rfl) w.heap.size 15 Z (.bool false) rfl rfl O3'.out.g (by rw [SZ.size]; decide) rfl rfl ?_; intro w4 hb4 hw4; have S4 := SZ.set 15 (.bool false) rfl; obtain ⟨Z4, hZ4⟩ : ∃ Z4, Z.setIfInBounds 15 (.bool false) = Z4 := ⟨_, rfl⟩; rw [hZ4] at hb4 S4; clear hZ4)
  | (refine wpList_store_mid rfl 67 97 _ _ rfl 4 (fun w => by kernel_rfl) w.heap.size 18 Z4 N rfl rfl hb4 hn1.1 (by rw [S4.size]; decide) hn1.2 ?_; intro w5 hb5 hw5; have S5 := S4.splice 18 (cs := N) (by rw [hn1.1]; decide) hn1.2; obtain ⟨Z5, hZ5⟩ : ∃ Z5, splice Z4 18 N = Z5 := ⟨_, rfl⟩; rw [hZ5] at hb5 S5; clear hZ5))
 have hgn : w.heap.size ∉ S.foot := hnf.out _ (Nat.le_refl _)
 rw [Array.toArray_toList] at hb3
 have hw35 := hid ((hw4.trans hw5))
 have G5 := hid hb5;have U5 := hid (U3.out.wrote hw35.out (by simp; omega))
 have N5 := hid (hb3.wrote hw35.out (by simp; omega))
 obtain ⟨rs, r1, r2⟩ := O3'.out.r
 have r5 := hid (r1.wrote hw35.out (by simp <;> omega))
 have hx5 := hid (((((hx1.out.below B2.out).below B3.out)).out hw35.out (by simpa using fun hm => hgn (foot_less _ hm)) (by simp only [List.mem_singleton]; omega)))
 have hs3 : w2.heap.size < w3.heap.size := hb3.lt
 have hall := hid (((((Wrote.of_below (M := S.foot) B0.out).trans hst.out.wrote).trans (Wrote.of_below B2.out)).trans (Wrote.of_below B3.out)).andNew hw35.out (by simp))
 have S5 := hid S5;have hL1 := hid fun (w' : World) (hf : Blk w' w1.heap.size U 67) => run_load_blk (P := Tryz.prog) hf 67 Tryz.underlying67 rfl (by rw [hu1.1]; kernel_rfl)
 have hL2 := hid fun (w' : World) (hf : Blk w' w2.heap.size N 67) => run_load_blk (P := Tryz.prog) hf 67 Tryz.underlying67 rfl (by rw [hn1.1]; kernel_rfl)
 have hL0 := hid fun (w' : World) (hf : Blk w' w.heap.size Z5 97) => run_load_blk (P := Tryz.prog) hf 97 Tryz.underlying97 rfl (by rw [S5.out.size]; kernel_rfl)
 clear hNe hb5 hb3 hb2 hb4 S4 hu1 hw4 hw5 hw2 hw3;refine regionQ [(1000, fun w' => Blk w' w.heap.size Z5 97), (1000, fun w' => Blk w' w1.heap.size U 67), (1000, fun w' => Blk w' w2.heap.size N 67)] (by kernel_rfl) ⟨G5.out, U5.out, N5.out, trivial⟩ fun KQ hKQ => ?_
 try simp only [PT]
 refine loadQ 0 rfl (by kernel_rfl) (by kernel_rfl) rfl rfl 0 rfl (by kernel_rfl) _ (fun w' hf => hL0.out w' hf) ?_
 try simp only [PT]
 refine loadQ 1 rfl (by kernel_rfl) (by kernel_rfl) rfl rfl 1 rfl (by kernel_rfl) _ (fun w' hf => hL1.out w' hf) ?_
 try simp only [PT]
 refine loadQ 2 rfl (by kernel_rfl) (by kernel_rfl) rfl rfl 2 rfl (by kernel_rfl) _ (fun w' hf => hL2.out w' hf) ?_
 try simp only [PT]
 refine tQ [3, 4] ?_;cases be with
 | false =>
  refine uQ 5 ?_;refine uQ 6 ?_;refine uQ 7 ?_;refine uQ 8 ?_;refine uQ 9 ?_;refine tQ [10] ?_;refine sQ 11 fun K hK => ?_;simp only [GO];refine wW 97 22 rfl (w.heap.size + 1 + 1) rs Z5 rfl rfl r5.out.drew S5.out.size r2 S5.out.one fun w6 hb6 hw6 => ?_
  refine hK _ _ ⟨⟨fun _ => G5.out.drew.wrote hw6 (by simp <;> omega), fun _ => U5.out.drew.wrote hw6 (by simp; omega), fun _ => N5.out.drew.wrote hw6 (by simp; omega), trivial⟩, ?_⟩
  clear hK K;try simp only [PT]
  refine tQ [12] ?_;refine dQ (hKQ.out _ _ ?_);clear hKQ KQ;go_wp2
  refine bodyPost_ret (results_ct1 Tryz.results80 rfl (run_loadVar_blk hb6 97 Tryz.underlying97 rfl (by rw [S5.out.size]; kernel_rfl)) rfl) rfl ?_
  exact show OthP _ _ _ _ _ _ from ⟨Z5, _, none, rfl, S5.out, hx5.out.drew.out hw6 (by simpa using fun hm => hnf.out _ (by omega) (foot_less _ hm)) (by simp only [List.mem_singleton]; omega), (hall.out.trans (Wrote.of_below (Below.refl _ _).drew)).andNew hw6 (by simp; omega), by simp⟩
 | true =>
  refine tQ [5, 6] ?_;refine lR 7 2 rfl rfl rfl rfl (fun w' hf => by (have k0 := (hf.cell 0).trans hN0; go_simp <;> with_reducible rfl)) ?_
  simp only [PT];refine tQ [8, 9, 10] ?_;refine sQ 11 fun K hK => ?_;simp only [GO];refine wW 97 22 rfl (w.heap.size + 1 + 1) rs Z5 rfl rfl r5.out.drew S5.out.size r2 S5.out.one fun w6 hb6 hw6 => ?_
  refine hK _ _ ⟨⟨fun _ => G5.out.drew.wrote hw6 (by simp <;> omega), fun _ => U5.out.drew.wrote hw6 (by simp; omega), fun _ => N5.out.drew.wrote hw6 (by simp; omega), trivial⟩, ?_⟩
  clear hK K;try simp only [PT]
  refine tQ [12] ?_;refine dQ (hKQ.out _ _ ?_);clear hKQ KQ;go_wp2
  refine bodyPost_ret (results_ct1 Tryz.results80 rfl (run_loadVar_blk hb6 97 Tryz.underlying97 rfl (by rw [S5.out.size]; kernel_rfl)) rfl) rfl ?_
  exact show OthP _ _ _ _ _ _ from ⟨Z5, _, none, rfl, S5.out, hx5.out.drew.out hw6 (by simpa using fun hm => hnf.out _ (by omega) (foot_less _ hm)) (by simp only [List.mem_singleton]; omega), (hall.out.trans (Wrote.of_below (Below.refl _ _).drew)).andNew hw6 (by simp; omega), by simp⟩
end
end Go.Proofs.YtoinabapaeebfaaGreatDoor
