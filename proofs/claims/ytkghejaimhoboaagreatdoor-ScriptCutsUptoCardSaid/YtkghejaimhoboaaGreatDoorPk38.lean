/- Parts of the proof of ScriptCuts: contracts of functions that it reaches, and plain lemmas. No condition of their own. -/
import Derived.Test.YtkghejaimhoboaaGreatDoorPk37
import Derived.Test.YtkghejaimhoboaaGreatDoorPk31
import Derived.Test.YtkghejaimhoboaaGreatDoorPk34
set_option linter.unusedSimpArgs false
set_option linter.unusedVariables false
set_option maxRecDepth 100000
set_option maxHeartbeats 8000000
namespace Go.Proofs.YtkghejaimhoboaaGreatDoor
open Go.RowKit Go.Shelf
section
attribute [local go_sem] Oper.semAt_some
theorem lit5i (w : World) : LsAt iCl 1 (w.alloc (.cells #[.int .i64 128, .int .i64 64, .int .i64 32, .int .i64 4, .int .i64 2] 3)) (some ⟨w.heap.size, 0, none⟩) 5 5 [128, 64, 32, 4, 2] :=
 ls_of_own (f := iCl) (size := 1) (e := 3) (fun x => rfl) (World.ownsRow_lit w #[.int .i64 128, .int .i64 64, .int .i64 32, .int .i64 4, .int .i64 2] 5 (Nat.le_refl _) (by decide) rfl) rfl
theorem lit5b (a b c d e : Bool) (w : World) : LsAt bCl 1 (w.alloc (.cells #[.bool a, .bool b, .bool c, .bool d, .bool e] 4)) (some ⟨w.heap.size, 0, none⟩) 5 5 [a, b, c, d, e] :=
 ls_of_own (f := bCl) (size := 1) (e := 4) (fun x => rfl) (World.ownsRow_lit w #[.bool a, .bool b, .bool c, .bool d, .bool e] 5 (Nat.le_refl _) (by decide) rfl) rfl
theorem lit2i (w : World) : LsAt iCl 1 (w.alloc (.cells #[.int .i64 8, .int .i64 1] 3)) (some ⟨w.heap.size, 0, none⟩) 2 2 [8, 1] :=
 ls_of_own (f := iCl) (size := 1) (e := 3) (fun x => rfl) (World.ownsRow_lit w #[.int .i64 8, .int .i64 1] 2 (Nat.le_refl _) (by decide) rfl) rfl
theorem lit2b (a b : Bool) (w : World) : LsAt bCl 1 (w.alloc (.cells #[.bool a, .bool b] 4)) (some ⟨w.heap.size, 0, none⟩) 2 2 [a, b] :=
 ls_of_own (f := bCl) (size := 1) (e := 4) (fun x => rfl) (World.ownsRow_lit w #[.bool a, .bool b] 2 (Nat.le_refl _) (by decide) rfl) rfl
theorem sum_con (p : Pk) (h : 0 <= p.will.qos) : sumT [p.hasUser, p.hasPass, p.will.retain, p.hasWill, p.clean] [128, 64, 32, 4, 2] + 8 * p.will.qos = ((connN p : Nat) : Int) := by
 unfold connN
 simp only [sumT]
 cases p.hasUser <;> cases p.hasPass <;> cases p.will.retain <;> cases p.hasWill <;> cases p.clean <;> simp [bitN] <;> omega
theorem sum_pub (p : Pk) (h : 0 <= p.qos) (hk : p.kind = 3) : sumT [p.dup, p.retain] [8, 1] + 2 * p.qos = ((flagN p : Nat) : Int) := by
 unfold flagN
 rw [if_pos hk]
 simp only [sumT]
 cases p.dup <;> cases p.retain <;> simp [bitN] <;> omega
theorem pk_connects (p : Pk) (h : H3) (w : World) (hq : 0 <= p.will.qos /\ p.will.qos <= 3) : Calls Tryz.prog 202 #[.agg (p.cells h).toArray] w fun e w' => e = .returned (.int .i64 (connN p)) /\ Below w.heap.size w w' := by
 have htot := hid (sum_con p hq.1)
 obtain ⟨pc, hpc⟩ : ∃ pc, (p.cells h).toArray = pc := ⟨_, rfl⟩
 have kc : Hid (∀ W, Blk W w.heap.size pc 52 -> W.cell? ⟨w.heap.size, 15, none⟩ = some (.bool p.hasUser) /\ W.cell? ⟨w.heap.size, 16, none⟩ = some (.bool p.hasPass) /\ W.cell? ⟨w.heap.size, 11 + 3, none⟩ = some (.bool p.will.retain) /\ W.cell? ⟨w.heap.size, 10, none⟩ = some (.bool p.hasWill) /\ W.cell? ⟨w.heap.size, 8, none⟩ = some (.bool p.clean) /\ W.cell? ⟨w.heap.size, 11 + 2, none⟩ = some (.int .i64 p.will.qos)) := hid fun W hb => by
  rw [<- hpc] at hb
  exact ⟨hb.cell 15, hb.cell 16, hb.cell 14, hb.cell 10, hb.cell 8, hb.cell 13⟩
 rw [hpc]
 replace hpc := hid hpc;obtain ⟨bu, hbu⟩ : ∃ b, p.hasUser = b := ⟨_, rfl⟩
 obtain ⟨bp, hbp⟩ : ∃ b, p.hasPass = b := ⟨_, rfl⟩
 obtain ⟨br, hbr⟩ : ∃ b, p.will.retain = b := ⟨_, rfl⟩
 obtain ⟨bw, hbw⟩ : ∃ b, p.hasWill = b := ⟨_, rfl⟩
 obtain ⟨bc, hbc⟩ : ∃ b, p.clean = b := ⟨_, rfl⟩
 obtain ⟨q, hqq⟩ : ∃ q, p.will.qos = q := ⟨_, rfl⟩
 obtain ⟨tot, ht⟩ : ∃ t : Int, ((connN p : Nat) : Int) = t := ⟨_, rfl⟩
 rw [hbu, hbp, hbr, hbw, hbc, hqq, ht] at htot
 rw [hbu, hbp, hbr, hbw, hbc, hqq] at kc
 rw [hqq] at hq
 rw [ht]
 have hsl := sumT_lim [bu, bp, br, bw, bc] [128, 64, 32, 4, 2] (by decide)
 obtain ⟨sm, hsm⟩ : ∃ s, sumT [bu, bp, br, bw, bc] [128, 64, 32, 4, 2] = s := ⟨_, rfl⟩
 rw [hsm] at hsl htot
 have hs0 : 0 <= sm := hsl.1
 have hs1 : sm <= 5000 := by have := hsl.2; simpa using this
 have hq0 : 0 <= q := hq.1
 have hq1 : q <= 3 := hq.2
 clear hsl hq hbu hbp hbr hbw hbc hqq ht;obtain ⟨W0, hW0⟩ : ∃ W, w.alloc (.cells pc 52) = W := ⟨_, rfl⟩
 have BD0 : Below w.heap.size w W0 := by rw [<- hW0]; exact (Below.refl _ _).alloc (Nat.le_refl _) _
 have PD0 : Blk W0 w.heap.size pc 52 := by rw [<- hW0]; exact Blk.new _ _ _
 go_enter Tryz.func202, Tryz.ntmps202
 go_upto_region 1 with fail
 clear hW0;have PD : Blk W0.drew w.heap.size pc 52 := PD0
 have BD : Below w.heap.size w W0.drew := BD0.drew
 refine regionQ [(1000, fun w' => Blk w' w.heap.size pc 52)] (by kernel_rfl) ⟨PD, trivial⟩ fun KQ hKQ => ?_
 obtain ⟨WD, hWD⟩ : ∃ W, W0.drew = W := ⟨_, rfl⟩
 rw [hWD] at PD BD ⊢
 clear hWD PD0 BD0;try simp only [PT]
 refine tQ [2] ?_;refine loadQ 3 rfl (by kernel_rfl) (by kernel_rfl) rfl rfl 0 rfl (by kernel_rfl) (.bool bu) (fun w' hf => by (have k0 := (kc.out _ hf).1; go_simp <;> with_reducible rfl)) ?_
 simp only [PT];refine tQ [4] ?_;refine loadQ 5 rfl (by kernel_rfl) (by kernel_rfl) rfl rfl 0 rfl (by kernel_rfl) (.bool bp) (fun w' hf => by (have k0 := (kc.out _ hf).2.1; go_simp <;> with_reducible rfl)) ?_
 simp only [PT];refine tQ [6, 7] ?_;refine loadQ 8 rfl (by kernel_rfl) (by kernel_rfl) rfl rfl 0 rfl (by kernel_rfl) (.bool br) (fun w' hf => by (have k0 := (kc.out _ hf).2.2.1; go_simp <;> with_reducible rfl)) ?_
 simp only [PT];refine tQ [9] ?_;refine loadQ 10 rfl (by kernel_rfl) (by kernel_rfl) rfl rfl 0 rfl (by kernel_rfl) (.bool bw) (fun w' hf => by (have k0 := (kc.out _ hf).2.2.2.1; go_simp <;> with_reducible rfl)) ?_
 simp only [PT];refine tQ [11] ?_;refine loadQ 12 rfl (by kernel_rfl) (by kernel_rfl) rfl rfl 0 rfl (by kernel_rfl) (.bool bc) (fun w' hf => by (have k0 := (kc.out _ hf).2.2.2.2.1; go_simp <;> with_reducible rfl)) ?_
 simp only [PT];refine tQ [15, 16] ?_;refine loadQ 17 rfl (by kernel_rfl) (by kernel_rfl) rfl rfl 0 rfl (by kernel_rfl) (.int .i64 q) (fun w' hf => by (have k0 := (kc.out _ hf).2.2.2.2.2; go_simp <;> with_reducible rfl)) ?_
 simp only [PT];refine readQ 18 rfl (by kernel_rfl) (.int .i64 (8 * q)) (by kernel_rfl) (fun w' _ => by go_simp; rw [IntKind.wrap_i64]; omega) ?_
 try simp only [PT]
 refine stepM [0, 13] (fun j hj => ?_)
 have hj : j = 0 \/ j = 13 := by simpa using hj
 rcases hj with rfl | rfl
 ·refine ⟨⟨_, rfl, by kernel_rfl, fun K hK => ?_⟩⟩
  go_simp;have IL1 := lit5i WD
  have P1 := PD.alloc (.cells #[.int .i64 128, .int .i64 64, .int .i64 32, .int .i64 4, .int .i64 2] 3)
  have B1 := BD.alloc BD.size (.cells #[.int .i64 128, .int .i64 64, .int .i64 32, .int .i64 4, .int .i64 2] 3)
  have gz : Below WD.heap.size WD (WD.alloc (.cells #[.int .i64 128, .int .i64 64, .int .i64 32, .int .i64 4, .int .i64 2] 3)) := (Below.refl _ _).alloc (Nat.le_refl _) _
  skip
  obtain ⟨gi, hgi⟩ : ∃ g, WD.heap.size = g := ⟨_, rfl⟩
  obtain ⟨W1, hW1⟩ : ∃ W, WD.alloc (.cells #[.int .i64 128, .int .i64 64, .int .i64 32, .int .i64 4, .int .i64 2] 3) = W := ⟨_, rfl⟩
  rw [hW1] at IL1 P1 B1 gz  ⊢
  rw [hgi] at IL1 ⊢
  refine hK _ _ ⟨⟨fun _ => P1, trivial⟩, ?_⟩
  clear hK K hW1 hgi gz;try simp only [PT]
  refine stepM [1, 13] (fun j hj => ?_)
  have hj : j = 1 \/ j = 13 := by simpa using hj
  rcases hj with rfl | rfl
  ·refine ⟨⟨_, rfl, by kernel_rfl, fun K hK => ?_⟩⟩
   go_simp;refine (pk_bits (some ⟨gi, 0, none⟩) 5 5 W1).mono ?_
   rintro e w8 ⟨rfl, rfl⟩
   have BX2 : Boxed (W1.alloc (.cells #[.slice (some ⟨gi, 0, none⟩) 5 5] 49)) W1.heap.size 49 (.slice (some ⟨gi, 0, none⟩) 5 5) := Boxed.new _ _ _
   have P2 := P1.alloc (.cells #[.slice (some ⟨gi, 0, none⟩) 5 5] 49)
   have B2 := B1.alloc B1.size (.cells #[.slice (some ⟨gi, 0, none⟩) 5 5] 49)
   have bz : Below W1.heap.size W1 (W1.alloc (.cells #[.slice (some ⟨gi, 0, none⟩) 5 5] 49)) := (Below.refl _ _).alloc (Nat.le_refl _) _
   obtain ⟨gx, hgx⟩ : ∃ g, W1.heap.size = g := ⟨_, rfl⟩
   obtain ⟨W2, hW2⟩ : ∃ W, W1.alloc (.cells #[.slice (some ⟨gi, 0, none⟩) 5 5] 49) = W := ⟨_, rfl⟩
   have IL2 := IL1.below bz
   rw [hW2] at BX2 P2 B2 IL2 bz ⊢
   rw [hgx] at BX2 ⊢
   refine hK _ _ ⟨⟨fun _ => P2, trivial⟩, ?_⟩
   clear hK K hW2 hgx bz;try simp only [PT]
   refine sQ 13 fun K hK => ?_;simp only [GO];go_simp;have BL3 := lit5b bu bp br bw bc W2
   have P3 := P2.alloc (.cells #[.bool bu, .bool bp, .bool br, .bool bw, .bool bc] 4)
   have B3 := B2.alloc B2.size (.cells #[.bool bu, .bool bp, .bool br, .bool bw, .bool bc] 4)
   obtain ⟨gb, hgb⟩ : ∃ g, W2.heap.size = g := ⟨_, rfl⟩
   obtain ⟨W3, hW3⟩ : ∃ W, W2.alloc (.cells #[.bool bu, .bool bp, .bool br, .bool bw, .bool bc] 4) = W := ⟨_, rfl⟩
   have bz : Below W2.heap.size W2 (W2.alloc (.cells #[.bool bu, .bool bp, .bool br, .bool bw, .bool bc] 4)) := (Below.refl _ _).alloc (Nat.le_refl _) _; have IL3 := IL2.below bz; have BX3 := boxed_below BX2 bz
   rw [hW3] at BL3 P3 B3 IL3 BX3 ⊢
   rw [hgb] at BL3 ⊢
   refine hK _ _ ⟨⟨fun _ => P3, trivial⟩, ?_⟩
   clear hK K hW3 hgb;try simp only [PT]
   refine sQ 14 fun K hK => ?_;simp only [GO];go_simp;refine (pk_bits1 [128, 64, 32, 4, 2] [bu, bp, br, bw, bc] _ 5 _ _ 5 _ _ W3 BX3 IL3 BL3 (Nat.le_refl _) (by decide) (by decide)).mono ?_
   rintro e w9 ⟨rfl, rfl⟩
   refine hK _ _ ⟨⟨fun _ => P3, trivial⟩, ?_⟩
   clear hK K;rw [hsm]
   try simp only [PT]
   refine readQ 19 rfl (by kernel_rfl) (.int .i64 (sm + 8 * q)) (by kernel_rfl) (fun w' _ => by go_simp; rw [IntKind.wrap_i64]; omega) ?_
   try simp only [PT]
   refine tQ [20] ?_;refine dQ (hKQ.out _ _ ?_);clear hKQ KQ;go_wp2_with fail
   go_ret
   exact ⟨by rw [htot.out]; rfl, B3⟩
  ·refine ⟨⟨_, rfl, by kernel_rfl, fun K hK => ?_⟩⟩
   go_simp;have BL2 := lit5b bu bp br bw bc W1
   have P2 := P1.alloc (.cells #[.bool bu, .bool bp, .bool br, .bool bw, .bool bc] 4)
   have B2 := B1.alloc B1.size (.cells #[.bool bu, .bool bp, .bool br, .bool bw, .bool bc] 4)
   obtain ⟨gb, hgb⟩ : ∃ g, W1.heap.size = g := ⟨_, rfl⟩
   obtain ⟨W2, hW2⟩ : ∃ W, W1.alloc (.cells #[.bool bu, .bool bp, .bool br, .bool bw, .bool bc] 4) = W := ⟨_, rfl⟩
   have bz : Below W1.heap.size W1 (W1.alloc (.cells #[.bool bu, .bool bp, .bool br, .bool bw, .bool bc] 4)) := (Below.refl _ _).alloc (Nat.le_refl _) _; have IL2 := IL1.below bz
   rw [hW2] at BL2 P2 B2 IL2 ⊢
   rw [hgb] at BL2 ⊢
   refine hK _ _ ⟨⟨fun _ => P2, trivial⟩, ?_⟩
   clear hK K hW2 hgb;try simp only [PT]
   refine sQ 1 fun K hK => ?_;simp only [GO];go_simp;refine (pk_bits (some ⟨gi, 0, none⟩) 5 5 W2).mono ?_
   rintro e w8 ⟨rfl, rfl⟩
   have BX3 : Boxed (W2.alloc (.cells #[.slice (some ⟨gi, 0, none⟩) 5 5] 49)) W2.heap.size 49 (.slice (some ⟨gi, 0, none⟩) 5 5) := Boxed.new _ _ _
   have P3 := P2.alloc (.cells #[.slice (some ⟨gi, 0, none⟩) 5 5] 49)
   have B3 := B2.alloc B2.size (.cells #[.slice (some ⟨gi, 0, none⟩) 5 5] 49)
   have bz : Below W2.heap.size W2 (W2.alloc (.cells #[.slice (some ⟨gi, 0, none⟩) 5 5] 49)) := (Below.refl _ _).alloc (Nat.le_refl _) _
   obtain ⟨gx, hgx⟩ : ∃ g, W2.heap.size = g := ⟨_, rfl⟩
   obtain ⟨W3, hW3⟩ : ∃ W, W2.alloc (.cells #[.slice (some ⟨gi, 0, none⟩) 5 5] 49) = W := ⟨_, rfl⟩
   have IL3 := IL2.below bz; have BL3 := BL2.below bz
   rw [hW3] at BX3 P3 B3 IL3 BL3 bz ⊢
   rw [hgx] at BX3 ⊢
   refine hK _ _ ⟨⟨fun _ => P3, trivial⟩, ?_⟩
   clear hK K hW3 hgx bz;try simp only [PT]
   refine sQ 14 fun K hK => ?_;simp only [GO];go_simp;refine (pk_bits1 [128, 64, 32, 4, 2] [bu, bp, br, bw, bc] _ 5 _ _ 5 _ _ W3 BX3 IL3 BL3 (Nat.le_refl _) (by decide) (by decide)).mono ?_
   rintro e w9 ⟨rfl, rfl⟩
   refine hK _ _ ⟨⟨fun _ => P3, trivial⟩, ?_⟩
   clear hK K;rw [hsm]
   try simp only [PT]
   refine readQ 19 rfl (by kernel_rfl) (.int .i64 (sm + 8 * q)) (by kernel_rfl) (fun w' _ => by go_simp; rw [IntKind.wrap_i64]; omega) ?_
   try simp only [PT]
   refine tQ [20] ?_;refine dQ (hKQ.out _ _ ?_);clear hKQ KQ;go_wp2_with fail
   go_ret
   exact ⟨by rw [htot.out]; rfl, B3⟩
 ·refine ⟨⟨_, rfl, by kernel_rfl, fun K hK => ?_⟩⟩
  go_simp;have BL1 := lit5b bu bp br bw bc WD
  have P1 := PD.alloc (.cells #[.bool bu, .bool bp, .bool br, .bool bw, .bool bc] 4)
  have B1 := BD.alloc BD.size (.cells #[.bool bu, .bool bp, .bool br, .bool bw, .bool bc] 4)
  obtain ⟨gb, hgb⟩ : ∃ g, WD.heap.size = g := ⟨_, rfl⟩
  obtain ⟨W1, hW1⟩ : ∃ W, WD.alloc (.cells #[.bool bu, .bool bp, .bool br, .bool bw, .bool bc] 4) = W := ⟨_, rfl⟩
  skip
  rw [hW1] at BL1 P1 B1  ⊢
  rw [hgb] at BL1 ⊢
  refine hK _ _ ⟨⟨fun _ => P1, trivial⟩, ?_⟩
  clear hK K hW1 hgb;try simp only [PT]
  refine sQ 0 fun K hK => ?_;simp only [GO];go_simp;have IL2 := lit5i W1
  have P2 := P1.alloc (.cells #[.int .i64 128, .int .i64 64, .int .i64 32, .int .i64 4, .int .i64 2] 3)
  have B2 := B1.alloc B1.size (.cells #[.int .i64 128, .int .i64 64, .int .i64 32, .int .i64 4, .int .i64 2] 3)
  have gz : Below W1.heap.size W1 (W1.alloc (.cells #[.int .i64 128, .int .i64 64, .int .i64 32, .int .i64 4, .int .i64 2] 3)) := (Below.refl _ _).alloc (Nat.le_refl _) _
  have BL2 := BL1.below gz
  obtain ⟨gi, hgi⟩ : ∃ g, W1.heap.size = g := ⟨_, rfl⟩
  obtain ⟨W2, hW2⟩ : ∃ W, W1.alloc (.cells #[.int .i64 128, .int .i64 64, .int .i64 32, .int .i64 4, .int .i64 2] 3) = W := ⟨_, rfl⟩
  rw [hW2] at IL2 P2 B2 gz BL2 ⊢
  rw [hgi] at IL2 ⊢
  refine hK _ _ ⟨⟨fun _ => P2, trivial⟩, ?_⟩
  clear hK K hW2 hgi gz;try simp only [PT]
  refine sQ 1 fun K hK => ?_;simp only [GO];go_simp;refine (pk_bits (some ⟨gi, 0, none⟩) 5 5 W2).mono ?_
  rintro e w8 ⟨rfl, rfl⟩
  have BX3 : Boxed (W2.alloc (.cells #[.slice (some ⟨gi, 0, none⟩) 5 5] 49)) W2.heap.size 49 (.slice (some ⟨gi, 0, none⟩) 5 5) := Boxed.new _ _ _
  have P3 := P2.alloc (.cells #[.slice (some ⟨gi, 0, none⟩) 5 5] 49)
  have B3 := B2.alloc B2.size (.cells #[.slice (some ⟨gi, 0, none⟩) 5 5] 49)
  have bz : Below W2.heap.size W2 (W2.alloc (.cells #[.slice (some ⟨gi, 0, none⟩) 5 5] 49)) := (Below.refl _ _).alloc (Nat.le_refl _) _
  obtain ⟨gx, hgx⟩ : ∃ g, W2.heap.size = g := ⟨_, rfl⟩
  obtain ⟨W3, hW3⟩ : ∃ W, W2.alloc (.cells #[.slice (some ⟨gi, 0, none⟩) 5 5] 49) = W := ⟨_, rfl⟩
  have IL3 := IL2.below bz; have BL3 := BL2.below bz
  rw [hW3] at BX3 P3 B3 IL3 BL3 bz ⊢
  rw [hgx] at BX3 ⊢
  refine hK _ _ ⟨⟨fun _ => P3, trivial⟩, ?_⟩
  clear hK K hW3 hgx bz;try simp only [PT]
  refine sQ 14 fun K hK => ?_;simp only [GO];go_simp;refine (pk_bits1 [128, 64, 32, 4, 2] [bu, bp, br, bw, bc] _ 5 _ _ 5 _ _ W3 BX3 IL3 BL3 (Nat.le_refl _) (by decide) (by decide)).mono ?_
  rintro e w9 ⟨rfl, rfl⟩
  refine hK _ _ ⟨⟨fun _ => P3, trivial⟩, ?_⟩
  clear hK K;rw [hsm]
  try simp only [PT]
  refine readQ 19 rfl (by kernel_rfl) (.int .i64 (sm + 8 * q)) (by kernel_rfl) (fun w' _ => by go_simp; rw [IntKind.wrap_i64]; omega) ?_
  try simp only [PT]
  refine tQ [20] ?_;refine dQ (hKQ.out _ _ ?_);clear hKQ KQ;go_wp2_with fail
  go_ret
  exact ⟨by rw [htot.out]; rfl, B3⟩
theorem pk_pubFlags (p : Pk) (h : H3) (w : World) (hk : p.kind = 3) (hq : 0 <= p.qos /\ p.qos <= 3) : Calls Tryz.prog 206 #[.agg (p.cells h).toArray] w fun e w' => e = .returned (.int .i64 (flagN p)) /\ Below w.heap.size w w' := by
 have htot := hid (sum_pub p hq.1 hk)
 obtain ⟨pc, hpc⟩ : ∃ pc, (p.cells h).toArray = pc := ⟨_, rfl⟩
 have kc : Hid (∀ W, Blk W w.heap.size pc 52 -> W.cell? ⟨w.heap.size, 1, none⟩ = some (.bool p.dup) /\ W.cell? ⟨w.heap.size, 2, none⟩ = some (.bool p.retain) /\ W.cell? ⟨w.heap.size, 3, none⟩ = some (.int .i64 p.qos)) := hid fun W hb => by
  rw [<- hpc] at hb
  exact ⟨hb.cell 1, hb.cell 2, hb.cell 3⟩
 rw [hpc]
 replace hpc := hid hpc;obtain ⟨bu, hbu⟩ : ∃ b, p.dup = b := ⟨_, rfl⟩
 obtain ⟨bp, hbp⟩ : ∃ b, p.retain = b := ⟨_, rfl⟩
 obtain ⟨q, hqq⟩ : ∃ q, p.qos = q := ⟨_, rfl⟩
 obtain ⟨tot, ht⟩ : ∃ t : Int, ((flagN p : Nat) : Int) = t := ⟨_, rfl⟩
 rw [hbu, hbp, hqq, ht] at htot
 rw [hbu, hbp, hqq] at kc
 rw [hqq] at hq
 rw [ht]
 have hsl := sumT_lim [bu, bp] [8, 1] (by decide)
 obtain ⟨sm, hsm⟩ : ∃ s, sumT [bu, bp] [8, 1] = s := ⟨_, rfl⟩
 rw [hsm] at hsl htot
 have hs0 : 0 <= sm := hsl.1
 have hs1 : sm <= 5000 := by have := hsl.2; simp at this; omega
 have hq0 : 0 <= q := hq.1
 have hq1 : q <= 3 := hq.2
 clear hsl hq hbu hbp hqq ht hk;obtain ⟨W0, hW0⟩ : ∃ W, w.alloc (.cells pc 52) = W := ⟨_, rfl⟩
 have BD0 : Below w.heap.size w W0 := by rw [<- hW0]; exact (Below.refl _ _).alloc (Nat.le_refl _) _
 have PD0 : Blk W0 w.heap.size pc 52 := by rw [<- hW0]; exact Blk.new _ _ _
 go_enter Tryz.func206, Tryz.ntmps206
 go_upto_region 1 with fail
 clear hW0;have PD : Blk W0.drew w.heap.size pc 52 := PD0
 have BD : Below w.heap.size w W0.drew := BD0.drew
 refine regionQ [(1000, fun w' => Blk w' w.heap.size pc 52)] (by kernel_rfl) ⟨PD, trivial⟩ fun KQ hKQ => ?_
 obtain ⟨WD, hWD⟩ : ∃ W, W0.drew = W := ⟨_, rfl⟩
 rw [hWD] at PD BD ⊢
 clear hWD PD0 BD0;try simp only [PT]
 refine tQ [2] ?_;refine loadQ 3 rfl (by kernel_rfl) (by kernel_rfl) rfl rfl 0 rfl (by kernel_rfl) (.bool bu) (fun w' hf => by (have k0 := (kc.out _ hf).1; go_simp <;> with_reducible rfl)) ?_
 simp only [PT];refine tQ [4] ?_;refine loadQ 5 rfl (by kernel_rfl) (by kernel_rfl) rfl rfl 0 rfl (by kernel_rfl) (.bool bp) (fun w' hf => by (have k0 := (kc.out _ hf).2.1; go_simp <;> with_reducible rfl)) ?_
 simp only [PT];refine tQ [8] ?_;refine loadQ 9 rfl (by kernel_rfl) (by kernel_rfl) rfl rfl 0 rfl (by kernel_rfl) (.int .i64 q) (fun w' hf => by (have k0 := (kc.out _ hf).2.2; go_simp <;> with_reducible rfl)) ?_
 simp only [PT];refine readQ 10 rfl (by kernel_rfl) (.int .i64 (2 * q)) (by kernel_rfl) (fun w' _ => by go_simp; rw [IntKind.wrap_i64]; omega) ?_
 try simp only [PT]
 refine stepM [0, 6] (fun j hj => ?_)
 have hj : j = 0 \/ j = 6 := by simpa using hj
 rcases hj with rfl | rfl
 ·refine ⟨⟨_, rfl, by kernel_rfl, fun K hK => ?_⟩⟩
  go_simp;have IL1 := lit2i WD
  have P1 := PD.alloc (.cells #[.int .i64 8, .int .i64 1] 3)
  have B1 := BD.alloc BD.size (.cells #[.int .i64 8, .int .i64 1] 3)
  have gz : Below WD.heap.size WD (WD.alloc (.cells #[.int .i64 8, .int .i64 1] 3)) := (Below.refl _ _).alloc (Nat.le_refl _) _
  skip
  obtain ⟨gi, hgi⟩ : ∃ g, WD.heap.size = g := ⟨_, rfl⟩
  obtain ⟨W1, hW1⟩ : ∃ W, WD.alloc (.cells #[.int .i64 8, .int .i64 1] 3) = W := ⟨_, rfl⟩
  rw [hW1] at IL1 P1 B1 gz  ⊢
  rw [hgi] at IL1 ⊢
  refine hK _ _ ⟨⟨fun _ => P1, trivial⟩, ?_⟩
  clear hK K hW1 hgi gz;try simp only [PT]
  refine stepM [1, 6] (fun j hj => ?_)
  have hj : j = 1 \/ j = 6 := by simpa using hj
  rcases hj with rfl | rfl
  ·refine ⟨⟨_, rfl, by kernel_rfl, fun K hK => ?_⟩⟩
   go_simp;refine (pk_bits (some ⟨gi, 0, none⟩) 2 2 W1).mono ?_
   rintro e w8 ⟨rfl, rfl⟩
   have BX2 : Boxed (W1.alloc (.cells #[.slice (some ⟨gi, 0, none⟩) 2 2] 49)) W1.heap.size 49 (.slice (some ⟨gi, 0, none⟩) 2 2) := Boxed.new _ _ _
   have P2 := P1.alloc (.cells #[.slice (some ⟨gi, 0, none⟩) 2 2] 49)
   have B2 := B1.alloc B1.size (.cells #[.slice (some ⟨gi, 0, none⟩) 2 2] 49)
   have bz : Below W1.heap.size W1 (W1.alloc (.cells #[.slice (some ⟨gi, 0, none⟩) 2 2] 49)) := (Below.refl _ _).alloc (Nat.le_refl _) _
   obtain ⟨gx, hgx⟩ : ∃ g, W1.heap.size = g := ⟨_, rfl⟩
   obtain ⟨W2, hW2⟩ : ∃ W, W1.alloc (.cells #[.slice (some ⟨gi, 0, none⟩) 2 2] 49) = W := ⟨_, rfl⟩
   have IL2 := IL1.below bz
   rw [hW2] at BX2 P2 B2 IL2 bz ⊢
   rw [hgx] at BX2 ⊢
   refine hK _ _ ⟨⟨fun _ => P2, trivial⟩, ?_⟩
   clear hK K hW2 hgx bz;try simp only [PT]
   refine sQ 6 fun K hK => ?_;simp only [GO];go_simp;have BL3 := lit2b bu bp W2
   have P3 := P2.alloc (.cells #[.bool bu, .bool bp] 4)
   have B3 := B2.alloc B2.size (.cells #[.bool bu, .bool bp] 4)
   obtain ⟨gb, hgb⟩ : ∃ g, W2.heap.size = g := ⟨_, rfl⟩
   obtain ⟨W3, hW3⟩ : ∃ W, W2.alloc (.cells #[.bool bu, .bool bp] 4) = W := ⟨_, rfl⟩
   have bz : Below W2.heap.size W2 (W2.alloc (.cells #[.bool bu, .bool bp] 4)) := (Below.refl _ _).alloc (Nat.le_refl _) _; have IL3 := IL2.below bz; have BX3 := boxed_below BX2 bz
   rw [hW3] at BL3 P3 B3 IL3 BX3 ⊢
   rw [hgb] at BL3 ⊢
   refine hK _ _ ⟨⟨fun _ => P3, trivial⟩, ?_⟩
   clear hK K hW3 hgb;try simp only [PT]
   refine sQ 7 fun K hK => ?_;simp only [GO];go_simp;refine (pk_bits1 [8, 1] [bu, bp] _ 2 _ _ 2 _ _ W3 BX3 IL3 BL3 (Nat.le_refl _) (by decide) (by decide)).mono ?_
   rintro e w9 ⟨rfl, rfl⟩
   refine hK _ _ ⟨⟨fun _ => P3, trivial⟩, ?_⟩
   clear hK K;rw [hsm]
   try simp only [PT]
   refine readQ 11 rfl (by kernel_rfl) (.int .i64 (sm + 2 * q)) (by kernel_rfl) (fun w' _ => by go_simp; rw [IntKind.wrap_i64]; omega) ?_
   try simp only [PT]
   refine tQ [12] ?_;refine dQ (hKQ.out _ _ ?_);clear hKQ KQ;go_wp2_with fail
   go_ret
   exact ⟨by rw [htot.out]; rfl, B3⟩
  ·refine ⟨⟨_, rfl, by kernel_rfl, fun K hK => ?_⟩⟩
   go_simp;have BL2 := lit2b bu bp W1
   have P2 := P1.alloc (.cells #[.bool bu, .bool bp] 4)
   have B2 := B1.alloc B1.size (.cells #[.bool bu, .bool bp] 4)
   obtain ⟨gb, hgb⟩ : ∃ g, W1.heap.size = g := ⟨_, rfl⟩
   obtain ⟨W2, hW2⟩ : ∃ W, W1.alloc (.cells #[.bool bu, .bool bp] 4) = W := ⟨_, rfl⟩
   have bz : Below W1.heap.size W1 (W1.alloc (.cells #[.bool bu, .bool bp] 4)) := (Below.refl _ _).alloc (Nat.le_refl _) _; have IL2 := IL1.below bz
   rw [hW2] at BL2 P2 B2 IL2 ⊢
   rw [hgb] at BL2 ⊢
   refine hK _ _ ⟨⟨fun _ => P2, trivial⟩, ?_⟩
   clear hK K hW2 hgb;try simp only [PT]
   refine sQ 1 fun K hK => ?_;simp only [GO];go_simp;refine (pk_bits (some ⟨gi, 0, none⟩) 2 2 W2).mono ?_
   rintro e w8 ⟨rfl, rfl⟩
   have BX3 : Boxed (W2.alloc (.cells #[.slice (some ⟨gi, 0, none⟩) 2 2] 49)) W2.heap.size 49 (.slice (some ⟨gi, 0, none⟩) 2 2) := Boxed.new _ _ _
   have P3 := P2.alloc (.cells #[.slice (some ⟨gi, 0, none⟩) 2 2] 49)
   have B3 := B2.alloc B2.size (.cells #[.slice (some ⟨gi, 0, none⟩) 2 2] 49)
   have bz : Below W2.heap.size W2 (W2.alloc (.cells #[.slice (some ⟨gi, 0, none⟩) 2 2] 49)) := (Below.refl _ _).alloc (Nat.le_refl _) _
   obtain ⟨gx, hgx⟩ : ∃ g, W2.heap.size = g := ⟨_, rfl⟩
   obtain ⟨W3, hW3⟩ : ∃ W, W2.alloc (.cells #[.slice (some ⟨gi, 0, none⟩) 2 2] 49) = W := ⟨_, rfl⟩
   have IL3 := IL2.below bz; have BL3 := BL2.below bz
   rw [hW3] at BX3 P3 B3 IL3 BL3 bz ⊢
   rw [hgx] at BX3 ⊢
   refine hK _ _ ⟨⟨fun _ => P3, trivial⟩, ?_⟩
   clear hK K hW3 hgx bz;try simp only [PT]
   refine sQ 7 fun K hK => ?_;simp only [GO];go_simp;refine (pk_bits1 [8, 1] [bu, bp] _ 2 _ _ 2 _ _ W3 BX3 IL3 BL3 (Nat.le_refl _) (by decide) (by decide)).mono ?_
   rintro e w9 ⟨rfl, rfl⟩
   refine hK _ _ ⟨⟨fun _ => P3, trivial⟩, ?_⟩
   clear hK K;rw [hsm]
   try simp only [PT]
   refine readQ 11 rfl (by kernel_rfl) (.int .i64 (sm + 2 * q)) (by kernel_rfl) (fun w' _ => by go_simp; rw [IntKind.wrap_i64]; omega) ?_
   try simp only [PT]
   refine tQ [12] ?_;refine dQ (hKQ.out _ _ ?_);clear hKQ KQ;go_wp2_with fail
   go_ret
   exact ⟨by rw [htot.out]; rfl, B3⟩
 ·refine ⟨⟨_, rfl, by kernel_rfl, fun K hK => ?_⟩⟩
  go_simp;have BL1 := lit2b bu bp WD
  have P1 := PD.alloc (.cells #[.bool bu, .bool bp] 4)
  have B1 := BD.alloc BD.size (.cells #[.bool bu, .bool bp] 4)
  obtain ⟨gb, hgb⟩ : ∃ g, WD.heap.size = g := ⟨_, rfl⟩
  obtain ⟨W1, hW1⟩ : ∃ W, WD.alloc (.cells #[.bool bu, .bool bp] 4) = W := ⟨_, rfl⟩
  skip
  rw [hW1] at BL1 P1 B1  ⊢
  rw [hgb] at BL1 ⊢
  refine hK _ _ ⟨⟨fun _ => P1, trivial⟩, ?_⟩
  clear hK K hW1 hgb;try simp only [PT]
  refine sQ 0 fun K hK => ?_;simp only [GO];go_simp;have IL2 := lit2i W1
  have P2 := P1.alloc (.cells #[.int .i64 8, .int .i64 1] 3)
  have B2 := B1.alloc B1.size (.cells #[.int .i64 8, .int .i64 1] 3)
  have gz : Below W1.heap.size W1 (W1.alloc (.cells #[.int .i64 8, .int .i64 1] 3)) := (Below.refl _ _).alloc (Nat.le_refl _) _
  have BL2 := BL1.below gz
  obtain ⟨gi, hgi⟩ : ∃ g, W1.heap.size = g := ⟨_, rfl⟩
  obtain ⟨W2, hW2⟩ : ∃ W, W1.alloc (.cells #[.int .i64 8, .int .i64 1] 3) = W := ⟨_, rfl⟩
  rw [hW2] at IL2 P2 B2 gz BL2 ⊢
  rw [hgi] at IL2 ⊢
  refine hK _ _ ⟨⟨fun _ => P2, trivial⟩, ?_⟩
  clear hK K hW2 hgi gz;try simp only [PT]
  refine sQ 1 fun K hK => ?_;simp only [GO];go_simp;refine (pk_bits (some ⟨gi, 0, none⟩) 2 2 W2).mono ?_
  rintro e w8 ⟨rfl, rfl⟩
  have BX3 : Boxed (W2.alloc (.cells #[.slice (some ⟨gi, 0, none⟩) 2 2] 49)) W2.heap.size 49 (.slice (some ⟨gi, 0, none⟩) 2 2) := Boxed.new _ _ _
  have P3 := P2.alloc (.cells #[.slice (some ⟨gi, 0, none⟩) 2 2] 49)
  have B3 := B2.alloc B2.size (.cells #[.slice (some ⟨gi, 0, none⟩) 2 2] 49)
  have bz : Below W2.heap.size W2 (W2.alloc (.cells #[.slice (some ⟨gi, 0, none⟩) 2 2] 49)) := (Below.refl _ _).alloc (Nat.le_refl _) _
  obtain ⟨gx, hgx⟩ : ∃ g, W2.heap.size = g := ⟨_, rfl⟩
  obtain ⟨W3, hW3⟩ : ∃ W, W2.alloc (.cells #[.slice (some ⟨gi, 0, none⟩) 2 2] 49) = W := ⟨_, rfl⟩
  have IL3 := IL2.below bz; have BL3 := BL2.below bz
  rw [hW3] at BX3 P3 B3 IL3 BL3 bz ⊢
  rw [hgx] at BX3 ⊢
  refine hK _ _ ⟨⟨fun _ => P3, trivial⟩, ?_⟩
  clear hK K hW3 hgx bz;try simp only [PT]
  refine sQ 7 fun K hK => ?_;simp only [GO];go_simp;refine (pk_bits1 [8, 1] [bu, bp] _ 2 _ _ 2 _ _ W3 BX3 IL3 BL3 (Nat.le_refl _) (by decide) (by decide)).mono ?_
  rintro e w9 ⟨rfl, rfl⟩
  refine hK _ _ ⟨⟨fun _ => P3, trivial⟩, ?_⟩
  clear hK K;rw [hsm]
  try simp only [PT]
  refine readQ 11 rfl (by kernel_rfl) (.int .i64 (sm + 2 * q)) (by kernel_rfl) (fun w' _ => by go_simp; rw [IntKind.wrap_i64]; omega) ?_
  try simp only [PT]
  refine tQ [12] ?_;refine dQ (hKQ.out _ _ ?_);clear hKQ KQ;go_wp2_with fail
  go_ret
  exact ⟨by rw [htot.out]; rfl, B3⟩
end
end Go.Proofs.YtkghejaimhoboaaGreatDoor
