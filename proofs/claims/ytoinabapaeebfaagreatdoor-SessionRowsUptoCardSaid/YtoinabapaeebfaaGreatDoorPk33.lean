/- Parts of the proof of SessionRows: contracts of functions that it reaches, and plain lemmas. No condition of their own. -/
import Derived.Test.YtoinabapaeebfaaGreatDoorPk31
import Derived.Test.YtoinabapaeebfaaGreatDoorPk32
set_option linter.unusedSimpArgs false
set_option linter.unusedVariables false
set_option maxRecDepth 100000
set_option maxHeartbeats 8000000
namespace Go.Proofs.YtoinabapaeebfaaGreatDoor
open Go.RowKit Go.Shelf
section
theorem oth_on {w : World} {B : Nat} {S : XLay} {x : XS} (h : XB w B S x) (a : AcV) (hk : a.kind = 1) (ht : a.will.topic.length <= 1000000) (hbl : a.will.body.length <= 1000000) :
  Calls Tryz.prog 80 #[.pointer (some ⟨S.p, 0, none⟩), .agg zS, .agg a.cells] w (OthP w B S (x.comes a.truth a.n (if a.has = true then some a.will else none) a.now)) := by
 have SZ := gs_zero
 have hw6 : ∀ (j : Nat) (v : Value), (a.will.vals.toList)[j]? = some v -> a.cells[6 + j]? = some v := by
  intro j v hj
  have hlt : j < 4 := (List.getElem?_eq_some_iff.1 hj).1
  obtain rfl | rfl | rfl | rfl : j = 0 \/ j = 1 \/ j = 2 \/ j = 3 := by omega
  all_goals exact hj
 obtain ⟨Z, hZ⟩ : ∃ Z, zS = Z := ⟨_, rfl⟩
 rw [hZ] at SZ ⊢
 obtain ⟨W0, hW0⟩ : ∃ W0, W0 = (((w.alloc (.cells Z 97)).alloc (.cells a.cells 101)).alloc (.cells zS 97)) := ⟨_, rfl⟩
 have O0 := hid (O3.start w Z zS a rfl)
 rw [<- hW0] at O0
 have B0 : Below w.heap.size w W0 := by
  rw [hW0]
  exact belw
 have B0 := hid B0;have H0 := hid (h.below B0.out)
 have c0 : W0.cell? ⟨w.heap.size + 1, 0, none⟩ = some (.int .i64 a.kind) := O0.out.x.cell 0
 have c4 : W0.cell? ⟨w.heap.size + 1, 4, none⟩ = some (.bool a.truth) := O0.out.x.cell 4
 have c5 : W0.cell? ⟨w.heap.size + 1, 5, none⟩ = some (.bool a.has) := O0.out.x.cell 5
 have c11 : W0.cell? ⟨w.heap.size + 1, 11, none⟩ = some (.int .i64 a.n) := O0.out.x.cell 11
 have c12 : W0.cell? ⟨w.heap.size + 1, 12, none⟩ = some (.int .i64 a.now) := O0.out.x.cell 12
 unfold zS AcV.cells at hW0
 rw [hW0] at c0 c4 c5 c11 c12
 have hnf : ∀ n, w.heap.size <= n -> n ∉ S.foot := fun n hn => h.foot_lt hn
 replace hnf := hid hnf;have hgl := h.ob.tz.lt
 rw [hk] at hW0 c0 c4 c5 c11 c12
 cases hh : a.has with
 | false =>
  rw [hh] at hW0 c0 c4 c5 c11 c12
  rw [if_neg (show ¬ (false = true) by simp)]
  obtain ⟨x', hx'⟩ : ∃ x', x.comes a.truth a.n none a.now = x' := ⟨_, rfl⟩
  have CO := hid (ses_On_any H0.out a.truth a.n a.now none none trivial (fun _ h => by cases h))
  unfold ptrO at CO
  rw [hx'] at CO ⊢
  clear hx';go_enter Tryz.func80, Tryz.ntmps80
  unfold AcV.cells
  rw [hk]
  go_wp2_with fail
  rw [<- hW0]
  clear hW0 c0 c4 c5 c11 c12;refine CO.out.mono ?_
  rintro e w3 ⟨no, wv, rfl, hx3, hw3, hwv⟩
  have O3' := hid (O0.out.wrote hw3 ⟨hnf.out _ (by omega), hnf.out _ (by omega), hnf.out _ (by omega)⟩)
  have hbs := B0.out.size
  have hw0 : w.heap.size + 1 + 1 < W0.heap.size := by obtain ⟨rs, r1, r2⟩ := O0.out.r; exact r1.lt
  have hfn : Hid (∀ n, w.heap.size <= n -> n < W0.heap.size -> n ∉ XLay.foot { S with wv := wv }) := hid fun n h1 h2 hm => by
   simp only [XLay.foot, XLay.own, List.cons_append, List.mem_cons, List.mem_append] at hm
   have hf := hnf.out n h1
   simp only [XLay.foot, XLay.own, List.cons_append, List.mem_cons, List.mem_append, not_or] at hf
   rcases hm with hm | hm | hm | hm | hm | hm
   ·exact hf.1 hm
   ·exact hf.2.1 hm
   ·exact hf.2.2.1 hm
   ·exact hf.2.2.2.1 hm
   ·rcases hwv n hm with h3 | h3
    ·exact hf.2.2.2.2.1 h3
    ·omega
   ·exact hf.2.2.2.2.2 hm
  have hwv := hid fun c (hc : c ∈ wv.toList) => (hwv c hc).imp id (fun hg => Nat.le_trans hbs hg)
  have hx3 := hid hx3;have hall := hid ((Wrote.of_below (M := S.foot) B0.out).trans hw3)
  clear hw3 CO;have hS := hid (show (Tryz.prog.info? 97).map (·.size) = some Z.size by rw [SZ.size]; kernel_rfl)
  have CC := hid fun W => r23_ComesOn a.truth a.n a.will false a.now W ht
  rw [hZ] at CC
  have k4 : w3.cell? ⟨w.heap.size + 1, 4, none⟩ = some (.bool a.truth) := O3'.out.x.cell 4
  have k5 : w3.cell? ⟨w.heap.size + 1, 5, none⟩ = some (.bool false) := (O3'.out.x.cell 5).trans (by show some (Value.bool a.has) = _; rw [hh])
  have k11 : w3.cell? ⟨w.heap.size + 1, 11, none⟩ = some (.int .i64 a.n) := O3'.out.x.cell 11
  have k12 : w3.cell? ⟨w.heap.size + 1, 12, none⟩ = some (.int .i64 a.now) := O3'.out.x.cell 12
  go_wp2_with (first
   | (refine wpList_load_blk rfl 97 _ rfl w.heap.size Z rfl O3'.out.g Tryz.underlying97 rfl hS.out ?_)
   | (refine wpList_load_mid rfl 67 _ rfl (w.heap.size + 1) 6 rfl a.will.vals.toList _ (fun j v hj => (O3'.out.x.cell (6 + j)).trans (hw6 j v hj)) Tryz.underlying67 rfl (by kernel_rfl) ?_)
   | fail)
  refine (CC.out _).mono ?_
  rintro e w4 ⟨gv, is, rfl, SG, hb4⟩
  have O4 := hid (O3'.out.bel hb4)
  have SG := hid SG;have b4 := hid hb4;clear hb4 k4 k5 k11 k12;obtain ⟨rs, r1, r2⟩ := O4.out.r
  obtain ⟨b0, hb0⟩ : ∃ b0, (no == 0) = b0 := ⟨_, rfl⟩
  obtain ⟨b2, hb2'⟩ : ∃ b2, (no == 2) = b2 := ⟨_, rfl⟩
  have hs4 : w.heap.size + 1 + 1 < w4.heap.size := r1.lt
  cases b0 <;> cases b2 <;> cases is <;> (
   go_wp2_with (first
    | (refine wS 97 22 rfl w4.heap.size _ gv rfl rfl (Blk.new w4 _ _) SG.out.size rfl SG.out.one ?_; intro w5 hb5 hw5; have B5 := hid (((Below.refl w4.heap.size w4).alloc (Nat.le_refl _) (.cells zS 97)).trans (hw5.below (by simp) (by simp))))
    | (refine wpList_load_blk rfl 97 _ rfl w4.heap.size gv rfl hb5 Tryz.underlying97 rfl (by rw [SG.out.size]; kernel_rfl) ?_)
    | (refine wS 97 22 rfl (w.heap.size + 1 + 1) rs gv rfl rfl (r1.below B5.out) SG.out.size r2 SG.out.one ?_; intro w9 hb9 hw9))
   refine bodyPost_ret (results_ct1 Tryz.results80 rfl (run_loadVar_blk hb9 97 Tryz.underlying97 rfl (by rw [SG.out.size]; kernel_rfl)) rfl) rfl ?_
   exact show OthP _ _ _ _ _ _ from ⟨gv, _, wv, rfl, SG.out, ((hx3.out.below b4.out).below B5.out).out hw9 (by simpa using hfn.out _ (by omega) (by omega)) (by simp only [List.mem_singleton]; omega), ((hall.out.trans (Wrote.of_below b4.out)).trans (Wrote.of_below B5.out)).andNew hw9 (by simp; omega), hwv.out⟩)
 | true =>
  rw [hh] at hW0 c0 c4 c5 c11 c12
  rw [if_pos (rfl : true = true)]
  obtain ⟨x', hx'⟩ : ∃ x', x.comes a.truth a.n (some a.will) a.now = x' := ⟨_, rfl⟩
  have CO := hid fun (W : World) (hb : Below W0.heap.size W0 W) (hV : Blk W W0.heap.size a.will.vals 67) => ses_On_any (H0.out.below hb) a.truth a.n a.now (some W0.heap.size) (some a.will) hV (fun v hv => by cases hv; exact ht)
  unfold ptrO at CO
  rw [hx'] at CO ⊢
  clear hx';have hw0 : w.heap.size + 1 + 1 < W0.heap.size := by obtain ⟨rs, r1, r2⟩ := O0.out.r; exact r1.lt
  go_enter Tryz.func80, Tryz.ntmps80
  unfold AcV.cells
  rw [hk]
  go_upto_region 5 with (fail)
  rw [<- hW0]
  clear hW0 c0 c4 c5 c11 c12;have hv := will_one a.will
  have hsz : ByteArray.size ⟨a.will.body.toArray⟩ = a.will.body.length := by simp [ByteArray.size]
  have hsz1 : ByteArray.size ⟨#[33]⟩ = 1 := rfl
  have hsd : decide (9223372036854775807 < a.will.body.length + 1) = false := decide_eq_false (by omega)
  go_wp2_with (first
   | (refine wpList_load_mid rfl 67 _ rfl (w.heap.size + 1) 6 rfl a.will.vals.toList _ (fun j v hj => (O0.out.x.cell (6 + j)).trans (hw6 j v hj)) Tryz.underlying67 rfl (by kernel_rfl) ?_)
   | (refine wS 67 4 rfl W0.heap.size _ a.will.vals rfl rfl (Blk.new W0 _ _) rfl rfl hv.2 ?_; intro w1 hb1 hw1; have B1 := hid (((Below.refl W0.heap.size W0).alloc (Nat.le_refl _) (.cells noWill.vals 67)).trans (hw1.below (by simp) (by simp))); have O1 := hid (O0.out.bel B1.out); have k4 : w1.cell? ⟨w.heap.size + 1, 4, none⟩ = some (.bool a.truth) := O1.out.x.cell 4; have k11 : w1.cell? ⟨w.heap.size + 1, 11, none⟩ = some (.int .i64 a.n) := O1.out.x.cell 11; have k12 : w1.cell? ⟨w.heap.size + 1, 12, none⟩ = some (.int .i64 a.now) := O1.out.x.cell 12))
  refine (CO.out w1 B1.out hb1).mono ?_
  rintro e w2 ⟨no, wv, rfl, hx2, hw2, hwv⟩
  have O2 := hid (O1.out.wrote hw2 ⟨hnf.out _ (by omega), hnf.out _ (by omega), hnf.out _ (by omega)⟩)
  have hV2 := hb1.wrote hw2 (hnf.out _ (by omega))
  have q1 : w2.cell? ⟨W0.heap.size, 1, none⟩ = some (.string ⟨a.will.body.toArray⟩) := hV2.cell 1
  have hs1 : W0.heap.size < w1.heap.size := hb1.lt
  have hs2 : w1.heap.size <= w2.heap.size := hw2.size
  have hfn : Hid (∀ n, w.heap.size <= n -> n < w1.heap.size -> n ∉ XLay.foot { S with wv := wv }) := hid fun n h1 h2 hm => by
   simp only [XLay.foot, XLay.own, List.cons_append, List.mem_cons, List.mem_append] at hm
   have hf := hnf.out n h1
   simp only [XLay.foot, XLay.own, List.cons_append, List.mem_cons, List.mem_append, not_or] at hf
   rcases hm with hm | hm | hm | hm | hm | hm
   ·exact hf.1 hm
   ·exact hf.2.1 hm
   ·exact hf.2.2.1 hm
   ·exact hf.2.2.2.1 hm
   ·rcases hwv n hm with h3 | h3
    ·exact hf.2.2.2.2.1 h3
    ·omega
   ·exact hf.2.2.2.2.2 hm
  have hwv := hid fun c (hc : c ∈ wv.toList) => (hwv c hc).imp id (fun hg => show w.heap.size <= c by omega)
  have hx2 := hid hx2;have hV2 := hid hV2;have hall2 := hid (((Wrote.of_below (M := S.foot) B0.out).trans (Wrote.of_below B1.out)).trans hw2)
  clear hw2 CO hb1 k4 k11 k12;go_upto_region 10 with (refine wpList_store_cell rfl 9 67 _ _ rfl (fun w => by kernel_rfl) W0.heap.size 1 a.will.vals _ rfl rfl hV2.out (by rw [hv.1]; decide) rfl rfl ?_; intro w3 hb3 hw3)
  have O3' := hid (O2.out.wrote hw3 (by simp; omega))
  have hx3 := hid (hx2.out.out hw3 (by simpa using hfn.out _ (by omega) hs1) (by simp only [List.mem_singleton]; omega))
  have hall := hid (hall2.out.andNew hw3 (by simp; omega))
  clear hb3 hw3;have hS := hid (show (Tryz.prog.info? 97).map (·.size) = some Z.size by rw [SZ.size]; kernel_rfl)
  have CC := hid fun W => r23_ComesOn a.truth a.n a.will true a.now W ht
  rw [hZ] at CC
  have k4 : w3.cell? ⟨w.heap.size + 1, 4, none⟩ = some (.bool a.truth) := O3'.out.x.cell 4
  have k5 : w3.cell? ⟨w.heap.size + 1, 5, none⟩ = some (.bool true) := (O3'.out.x.cell 5).trans (by show some (Value.bool a.has) = _; rw [hh])
  have k11 : w3.cell? ⟨w.heap.size + 1, 11, none⟩ = some (.int .i64 a.n) := O3'.out.x.cell 11
  have k12 : w3.cell? ⟨w.heap.size + 1, 12, none⟩ = some (.int .i64 a.now) := O3'.out.x.cell 12
  go_wp2_with (first
   | (refine wpList_load_blk rfl 97 _ rfl w.heap.size Z rfl O3'.out.g Tryz.underlying97 rfl hS.out ?_)
   | (refine wpList_load_mid rfl 67 _ rfl (w.heap.size + 1) 6 rfl a.will.vals.toList _ (fun j v hj => (O3'.out.x.cell (6 + j)).trans (hw6 j v hj)) Tryz.underlying67 rfl (by kernel_rfl) ?_)
   | fail)
  refine (CC.out _).mono ?_
  rintro e w4 ⟨gv, is, rfl, SG, hb4⟩
  have O4 := hid (O3'.out.bel hb4)
  have SG := hid SG;have b4 := hid hb4;clear hb4 k4 k5 k11 k12;obtain ⟨rs, r1, r2⟩ := O4.out.r
  obtain ⟨b0, hb0⟩ : ∃ b0, (no == 0) = b0 := ⟨_, rfl⟩
  obtain ⟨b2, hb2'⟩ : ∃ b2, (no == 2) = b2 := ⟨_, rfl⟩
  have hs4 : w.heap.size + 1 + 1 < w4.heap.size := r1.lt
  cases b0 <;> cases b2 <;> cases is <;> (
   go_wp2_with (first
    | (refine wS 97 22 rfl w4.heap.size _ gv rfl rfl (Blk.new w4 _ _) SG.out.size rfl SG.out.one ?_; intro w5 hb5 hw5; have B5 := hid (((Below.refl w4.heap.size w4).alloc (Nat.le_refl _) (.cells zS 97)).trans (hw5.below (by simp) (by simp))))
    | (refine wpList_load_blk rfl 97 _ rfl w4.heap.size gv rfl hb5 Tryz.underlying97 rfl (by rw [SG.out.size]; kernel_rfl) ?_)
    | (refine wS 97 22 rfl (w.heap.size + 1 + 1) rs gv rfl rfl (r1.below B5.out) SG.out.size r2 SG.out.one ?_; intro w9 hb9 hw9))
   refine bodyPost_ret (results_ct1 Tryz.results80 rfl (run_loadVar_blk hb9 97 Tryz.underlying97 rfl (by rw [SG.out.size]; kernel_rfl)) rfl) rfl ?_
   exact show OthP _ _ _ _ _ _ from ⟨gv, _, wv, rfl, SG.out, ((hx3.out.below b4.out).below B5.out).out hw9 (by simpa using hfn.out _ (by omega) (by omega)) (by simp only [List.mem_singleton]; omega), ((hall.out.trans (Wrote.of_below b4.out)).trans (Wrote.of_below B5.out)).andNew hw9 (by simp; omega), hwv.out⟩)
theorem oth_any {w : World} {B : Nat} {S : XLay} {x : XS} (h : XB w B S x) (a : AcV) (ht : a.will.topic.length <= 1000000) (hbl : a.will.body.length <= 1000000) :
  Calls Tryz.prog 80 #[.pointer (some ⟨S.p, 0, none⟩), .agg zS, .agg a.cells] w (OthP w B S (x.oth a)) := by
 unfold XS.oth
 by_cases h1 : a.kind = 1
 ·rw [if_pos h1]; exact oth_on h a h1 ht hbl
 ·rw [if_neg h1]
  by_cases h2 : a.kind = 2
  ·rw [if_pos h2]; exact oth_off h a h2
  ·rw [if_neg h2]
   by_cases h3 : a.kind = 3
   ·rw [if_pos h3]; exact oth_heard h a h3
   ·rw [if_neg h3]; exact oth_none h a h1 h2 h3
end
section
theorem bk_DoS_dstore1 {P : Prop} (h : P := by
 refine sQ 16 fun K hK => ?_;simp only [GO];have D7 := hid (D5.out.bel (hb6'.out))
 have BY := hid (hb6'.out)
 refine wW 97 22 rfl (w.heap.size + 1 + 1) rs Z rfl rfl (r1.out.below BY.out) SZ.size r2 SZ.one fun w8 hb8 hw8 => ?_
 refine hK _ _ ⟨⟨fun _ => D7.out.g.wrote hw8 (by simp <;> omega), fun _ => D7.out.d.wrote hw8 (by simp <;> omega), fun _ => D7.out.w.wrote hw8 (by simp <;> omega), trivial⟩, ?_⟩
 clear hK K;try simp only [PT]
 refine tQ [17, 18] ?_;refine dQ (hKQ.out _ _ ?_);clear hKQ KQ;go_wp2
 have l1 := run_loadVar_blk (P := Tryz.prog) hb8 97 Tryz.underlying97 rfl (by rw [SZ.size]; kernel_rfl)
 change bodyPost Tryz.prog Tryz.f35 _ _ _ _
 refine bodyPost_ret (results_ctt Tryz.results35 rfl l1 rfl rfl) rfl ?_
 have hw18 : Wrote [w.heap.size, w.heap.size + 1 + 1 + 1, w.heap.size + 1 + 1 + 1 + 1, w.heap.size + 1 + 1] w1 w8 := ((hw15.out.sub (by simp)).trans (Wrote.of_below BY.out)).trans (hw8.sub (by simp))
 have hn18 : ∀ n, n ∈ [w.heap.size, w.heap.size + 1 + 1 + 1, w.heap.size + 1 + 1 + 1 + 1, w.heap.size + 1 + 1] -> w.heap.size <= n /\ n <= w.heap.size + 4 := by simp; omega
 exact show DoP _ _ _ _ _ from ⟨Z, ac, nc, cc, _, S', rfl, SZ, hnc.out.symm, (D.out.xb.out hw18 (fun n hn => hnf1.out n (hn18 n hn).1 (hn18 n hn).2) (by simp <;> omega)).top, D.out.p, ((Stp.below B0.out).trans D.out.stp).fresh hw18 (fun n hn => (hn18 n hn).1), ownsRow_mono (not_own RC.out (((Wrote.of_below (M := [w.heap.size + 1 + 1]) BY.out)).trans hw8) (fun y hy hb => by have h1 := (RC.out.lt y (mem_blk.1 hb)).1; simp at hy; omega)) (by omega), fun y hy => by have h1 := D.out.free y (List.mem_append_right _ (by rw [hnc.out] at *; exact hy)); exact h1⟩) : P := h
theorem bk_DoS_dstore2 {P : Prop} (h : P := by
 refine sQ 16 fun K hK => ?_;simp only [GO];have D7 := hid (D5.out.bel ((Below.refl w5.heap.size w5).drew))
 have BY := hid ((Below.refl w5.heap.size w5).drew)
 refine wW 97 22 rfl (w.heap.size + 1 + 1) rs Z rfl rfl (r1.out.below BY.out) SZ.size r2 SZ.one fun w8 hb8 hw8 => ?_
 refine hK _ _ ⟨⟨fun _ => D7.out.g.wrote hw8 (by simp <;> omega), fun _ => D7.out.d.wrote hw8 (by simp <;> omega), fun _ => D7.out.w.wrote hw8 (by simp <;> omega), trivial⟩, ?_⟩
 clear hK K;try simp only [PT]
 refine tQ [17, 18] ?_;refine dQ (hKQ.out _ _ ?_);clear hKQ KQ;go_wp2
 have l1 := run_loadVar_blk (P := Tryz.prog) hb8 97 Tryz.underlying97 rfl (by rw [SZ.size]; kernel_rfl)
 change bodyPost Tryz.prog Tryz.f35 _ _ _ _
 refine bodyPost_ret (results_ctt Tryz.results35 rfl l1 rfl rfl) rfl ?_
 have hw18 : Wrote [w.heap.size, w.heap.size + 1 + 1 + 1, w.heap.size + 1 + 1 + 1 + 1, w.heap.size + 1 + 1] w1 w8 := ((hw15.out.sub (by simp)).trans (Wrote.of_below BY.out)).trans (hw8.sub (by simp))
 have hn18 : ∀ n, n ∈ [w.heap.size, w.heap.size + 1 + 1 + 1, w.heap.size + 1 + 1 + 1 + 1, w.heap.size + 1 + 1] -> w.heap.size <= n /\ n <= w.heap.size + 4 := by simp; omega
 exact show DoP _ _ _ _ _ from ⟨Z, ac, nc, cc, _, S', rfl, SZ, hnc.out.symm, (D.out.xb.out hw18 (fun n hn => hnf1.out n (hn18 n hn).1 (hn18 n hn).2) (by simp <;> omega)).top, D.out.p, ((Stp.below B0.out).trans D.out.stp).fresh hw18 (fun n hn => (hn18 n hn).1), ownsRow_mono (not_own RC.out (((Wrote.of_below (M := [w.heap.size + 1 + 1]) BY.out)).trans hw8) (fun y hy hb => by have h1 := (RC.out.lt y (mem_blk.1 hb)).1; simp at hy; omega)) (by omega), fun y hy => by have h1 := D.out.free y (List.mem_append_right _ (by rw [hnc.out] at *; exact hy)); exact h1⟩) : P := h
theorem bk_DoS_dtailT3 {P : Prop} (h : P := by
 by_cases hno : no = no2
 ·subst hno
  have hw15 := hid hw15;have hfar : ∀ n, n ∈ [w.heap.size, w.heap.size + 1 + 1 + 1, w.heap.size + 1 + 1 + 1 + 1] -> n < W0.heap.size := by simp; omega
  have RP := hid (ownsRow_mono (base' := 0) (not_own hpk.out hw15.out (fun y hy hb => by have h1 := (hpk.out.lt y (mem_blk.1 hb)).1; have h2 := hfar y hy; omega)) (Nat.zero_le _))
  have RC := hid (not_own hck.out hw15.out (fun y hy hb => by have h1 := (hck.out.lt y (mem_blk.1 hb)).1; have h2 := hfar y hy; omega))
  have SD := hid fun (W : World) (e1 : W.ownsRow 0 81 24 (.slice ap np cp) np (ps.flatMap PackV.cells)) (e2 : W.ownsRow 0 115 10 (.slice ac nc cc) nc (cs.flatMap ChangeV.cells)) (e3 : W.ownsRow 0 81 24 (.slice none 0 0) 0 (([] : List PackV).flatMap PackV.cells)) => by
   have h0 := r_SameDid ps ([] : List PackV) cs [] ap ac none none cp cc 0 0 W (by rw [hnp.out]; exact e1) (by rw [hnc.out]; exact e2) (by rw [<- hrn.out]; exact e3) (World.ownsRow_nil _ _ _ _) (fun h => List.eq_nil_of_length_eq_zero h) hps hcs
   rw [hnp.out, hnc.out, <- hrn.out] at h0
   exact h0
  obtain ⟨rs, r1, r2⟩ := D5.out.r
  have r1 := hid r1;have hS := hid (show (Tryz.prog.info? 97).map (·.size) = some Z.size by rw [SZ.size]; kernel_rfl)
  clear hfar;refine regionQ [(1000, fun w' => Blk w' w.heap.size Z 97), (1000, fun w' => Blk w' (w.heap.size + 1 + 1 + 1) #[.slice ap np cp, .slice ac nc cc] 53), (1000, fun w' => Blk w' (w.heap.size + 1 + 1 + 1 + 1) #[.slice none 0 0, .slice none 0 0] 53)] (by kernel_rfl) ⟨D5.out.g, D5.out.d, D5.out.w, trivial⟩ fun KQ hKQ => ?_
  try simp only [PT]
  refine loadQ 0 rfl (by kernel_rfl) (by kernel_rfl) rfl rfl 0 rfl (by kernel_rfl) _ (fun w' hf => run_load_blk hf 97 Tryz.underlying97 rfl hS.out) ?_
  try simp only [PT]
  refine tQ [1] ?_;refine lR 2 1 rfl rfl rfl rfl (fun w' hf => by (have k1 := hf.cell 1; simp at k1; go_simp <;> with_reducible rfl)) ?_
  simp only [PT];refine tQ [3, 4, 5, 6] ?_;refine tQ [7, 8, 9, 10, 11] ?_;refine lR 12 1 rfl rfl rfl rfl (fun w' hf => run_load_blk hf 53 Tryz.underlying53 rfl (by kernel_rfl)) ?_
  simp only [PT];refine lR 13 2 rfl rfl rfl rfl (fun w' hf => run_load_blk hf 53 Tryz.underlying53 rfl (by kernel_rfl)) ?_
  simp only [PT];refine sQ 14 fun K hK => ?_;simp only [GO];go_simp;refine (SD.out _ RP.out.drew (ownsRow_mono (base' := 0) RC.out (Nat.zero_le _)).drew RQ.out.drew).mono ?_
  rintro e w6 ⟨⟨bb, rfl, -⟩, hb6⟩
  have hb6' := hid ((Below.refl w5.heap.size w5).drew.trans hb6)
  have D6 := hid (D5.out.bel hb6'.out)
  refine hK _ _ ⟨⟨fun _ => D6.out.g, fun _ => D6.out.d, fun _ => D6.out.w, trivial⟩, ?_⟩
  clear hK K;try simp only [PT]
  refine tQ [15] ?_;exact bk_DoS_dstore1
 ·have dno : (no == no2) = false := by simpa using hno
  have hw15 := hid hw15;have hfar : ∀ n, n ∈ [w.heap.size, w.heap.size + 1 + 1 + 1, w.heap.size + 1 + 1 + 1 + 1] -> n < W0.heap.size := by simp; omega
  have RP := hid (ownsRow_mono (base' := 0) (not_own hpk.out hw15.out (fun y hy hb => by have h1 := (hpk.out.lt y (mem_blk.1 hb)).1; have h2 := hfar y hy; omega)) (Nat.zero_le _))
  have RC := hid (not_own hck.out hw15.out (fun y hy hb => by have h1 := (hck.out.lt y (mem_blk.1 hb)).1; have h2 := hfar y hy; omega))
  have SD := hid fun (W : World) (e1 : W.ownsRow 0 81 24 (.slice ap np cp) np (ps.flatMap PackV.cells)) (e2 : W.ownsRow 0 115 10 (.slice ac nc cc) nc (cs.flatMap ChangeV.cells)) (e3 : W.ownsRow 0 81 24 (.slice none 0 0) 0 (([] : List PackV).flatMap PackV.cells)) => by
   have h0 := r_SameDid ps ([] : List PackV) cs [] ap ac none none cp cc 0 0 W (by rw [hnp.out]; exact e1) (by rw [hnc.out]; exact e2) (by rw [<- hrn.out]; exact e3) (World.ownsRow_nil _ _ _ _) (fun h => List.eq_nil_of_length_eq_zero h) hps hcs
   rw [hnp.out, hnc.out, <- hrn.out] at h0
   exact h0
  obtain ⟨rs, r1, r2⟩ := D5.out.r
  have r1 := hid r1;have hS := hid (show (Tryz.prog.info? 97).map (·.size) = some Z.size by rw [SZ.size]; kernel_rfl)
  clear hfar;refine regionQ [(1000, fun w' => Blk w' w.heap.size Z 97), (1000, fun w' => Blk w' (w.heap.size + 1 + 1 + 1) #[.slice ap np cp, .slice ac nc cc] 53), (1000, fun w' => Blk w' (w.heap.size + 1 + 1 + 1 + 1) #[.slice none 0 0, .slice none 0 0] 53)] (by kernel_rfl) ⟨D5.out.g, D5.out.d, D5.out.w, trivial⟩ fun KQ hKQ => ?_
  try simp only [PT]
  refine loadQ 0 rfl (by kernel_rfl) (by kernel_rfl) rfl rfl 0 rfl (by kernel_rfl) _ (fun w' hf => run_load_blk hf 97 Tryz.underlying97 rfl hS.out) ?_
  try simp only [PT]
  refine tQ [1] ?_;refine lR 2 1 rfl rfl rfl rfl (fun w' hf => by (have k1 := hf.cell 1; simp at k1; go_simp <;> with_reducible rfl)) ?_
  simp only [PT];refine tQ [3, 4, 5, 6] ?_;refine tQ [7, 8, 9, 10, 11] ?_;refine uQ 12 ?_;refine uQ 13 ?_;refine uQ 14 ?_;refine tQ [15] ?_;exact bk_DoS_dstore2) : P := h
def XS.act (x : XS) (a : AcV) : XR :=
 if a.kind = 4 then ⟨x.want a.topic a.qos, [], x.wantC a.topic a.qos⟩ else if a.kind = 5 then x.unwant a.topic else if a.kind = 6 then x.give a.topic a.body a.qos a.truth
 else if a.kind = 7 then x.came a.n else if a.kind = 8 then x.hear a.pack a.n else if a.kind = 9 then x.anew else ⟨x.oth a, [], []⟩
structure DoneX (w w' : World) (S S' : XLay) (x' : XS) (cs : List ChangeV) (a : Option Addr) (n c : Nat) : Prop where
 cnt : n = cs.length
 xb : XB w' w'.heap.size S' x'
 p : S'.p = S.p
 stp : Stp S.foot S'.foot w w'
 chgs : w'.ownsRow w.heap.size 115 10 (.slice a n c) n (cs.flatMap ChangeV.cells)
 free : ∀ y ∈ blk (.slice a n c), y ∉ S'.foot
def DoP (w : World) (S : XLay) (r : XR) (e : Ending) (w' : World) : Prop :=
 ∃ gv a n c b S', e = .returned (.tuple #[.agg gv, .slice a n c, .bool b]) /\ GS gv /\ DoneX w w' S S' r.x r.cs a n c
structure D5 (w W : World) (Z : Array Value) (a : AcV) (dv wn : Array Value) : Prop where
 g : Blk W w.heap.size Z 97
 x : Blk W (w.heap.size + 1) a.cells 101
 r : ∃ rs, Blk W (w.heap.size + 1 + 1) rs 97 /\ rs.size = 22
 d : Blk W (w.heap.size + 1 + 1 + 1) dv 53
 w : Blk W (w.heap.size + 1 + 1 + 1 + 1) wn 53
theorem D5.wrote {w W W' : World} {Z : Array Value} {a : AcV} {dv wn : Array Value} (h : D5 w W Z a dv wn) {M : List Nat} (hw : Wrote M W W') (hM : ∀ n, w.heap.size <= n -> n <= w.heap.size + 4 -> n ∉ M) : D5 w W' Z a dv wn := by
 obtain ⟨g, x, ⟨rs, r1, r2⟩, d, wn'⟩ := h
 exact ⟨g.wrote hw (hM _ (by omega) (by omega)), x.wrote hw (hM _ (by omega) (by omega)), ⟨rs, r1.wrote hw (hM _ (by omega) (by omega)), r2⟩, d.wrote hw (hM _ (by omega) (by omega)), wn'.wrote hw (hM _ (by omega) (by omega))⟩
theorem D5.bel {w W W' : World} {Z : Array Value} {a : AcV} {dv wn : Array Value} (h : D5 w W Z a dv wn) (hb : Below W.heap.size W W') : D5 w W' Z a dv wn := h.wrote (Wrote.of_below (M := []) hb) (by simp)
theorem D5.did {w W W' : World} {Z : Array Value} {a : AcV} {dv wn dv' : Array Value} (h : D5 w W Z a dv wn) (hb : Blk W' (w.heap.size + 1 + 1 + 1) dv' 53) (hw : Wrote [w.heap.size + 1 + 1 + 1] W W') : D5 w W' Z a dv' wn := by
 obtain ⟨g, x, ⟨rs, r1, r2⟩, d, wn'⟩ := h
 exact ⟨g.wrote hw (by simp <;> omega), x.wrote hw (by simp <;> omega), ⟨rs, r1.wrote hw (by simp), r2⟩, hb, wn'.wrote hw (by simp)⟩
theorem D5.want {w W W' : World} {Z : Array Value} {a : AcV} {dv wn wn' : Array Value} (h : D5 w W Z a dv wn) (hb : Blk W' (w.heap.size + 1 + 1 + 1 + 1) wn' 53) (hw : Wrote [w.heap.size + 1 + 1 + 1 + 1] W W') : D5 w W' Z a dv wn' := by
 obtain ⟨g, x, ⟨rs, r1, r2⟩, d, w0⟩ := h
 exact ⟨g.wrote hw (by simp <;> omega), x.wrote hw (by simp <;> omega), ⟨rs, r1.wrote hw (by simp <;> omega), r2⟩, d.wrote hw (by simp), hb⟩
theorem D5.ses {w W W' : World} {Z Z' : Array Value} {a : AcV} {dv wn : Array Value} (h : D5 w W Z a dv wn) (hb : Blk W' w.heap.size Z' 97) (hw : Wrote [w.heap.size] W W') : D5 w W' Z' a dv wn := by
 obtain ⟨g, x, ⟨rs, r1, r2⟩, d, w0⟩ := h
 exact ⟨hb, x.wrote hw (by simp), ⟨rs, r1.wrote hw (by simp <;> omega), r2⟩, d.wrote hw (by simp <;> omega), w0.wrote hw (by simp <;> omega)⟩
theorem D5.start (w : World) (Z Z1 d1 d2 : Array Value) (a : AcV) (hz : Z1.size = 22) : D5 w (((((w.alloc (.cells Z 97)).alloc (.cells a.cells 101)).alloc (.cells Z1 97)).alloc (.cells d1 53)).alloc (.cells d2 53)) Z a d1 d2 := by
 refine ⟨((((Blk.new w _ _).alloc _).alloc _).alloc _).alloc _, (((Blk.new_at _ _ _ _ (by simp)).alloc _).alloc _).alloc _, ⟨Z1, ((Blk.new_at _ _ _ _ (by simp)).alloc _).alloc _, hz⟩, (Blk.new_at _ _ _ _ (by simp)).alloc _, Blk.new_at _ _ _ _ (by simp)⟩
theorem does_want {w : World} {B : Nat} {S : XLay} {x : XS} (h : XB w B S x) (a : AcV) (hk : a.kind = 4) (ht : a.topic.length <= 1000000) :
  Calls Tryz.prog 35 #[.pointer (some ⟨S.p, 0, none⟩), .agg zS, .agg a.cells] w (DoP w S ⟨x.want a.topic a.qos, [], x.wantC a.topic a.qos⟩) := by
 have CR := hid fun W => r23_Want a.topic a.qos W ht
 have SZ := gs_zero
 obtain ⟨Z, hZ⟩ : ∃ Z, zS = Z := ⟨_, rfl⟩
 rw [hZ] at SZ ⊢
 obtain ⟨W0, hW0⟩ : ∃ W0, W0 = (((((w.alloc (.cells Z 97)).alloc (.cells a.cells 101)).alloc (.cells zS 97)).alloc (.cells didZ 53)).alloc (.cells didZ 53)) := ⟨_, rfl⟩
 have D0 := hid (D5.start w Z zS didZ didZ a rfl)
 rw [<- hW0] at D0
 have B0 : Below w.heap.size w W0 := by
  rw [hW0]
  exact belw
 have B0 := hid B0;have H0 := hid (h.below B0.out).top
 have hw0 : w.heap.size + 1 + 1 + 1 + 1 < W0.heap.size := D0.out.w.lt
 have hnf : ∀ n, w.heap.size <= n -> n ∉ S.foot := fun n hn => h.foot_lt hn
 replace hnf := hid hnf;have hgl := h.ob.tz.lt
 unfold zS AcV.cells didZ at hW0
 rw [hk] at hW0
 rw [hZ] at CR
 have CS := hid (ses_Want_any H0.out a.topic a.qos ht)
 have hps : (XR.mk (x.want a.topic a.qos) [] (x.wantC a.topic a.qos)).ps.length <= 100000 := by simp
 have hcs : (XR.mk (x.want a.topic a.qos) [] (x.wantC a.topic a.qos)).cs.length <= 100000 := by show (x.wantC a.topic a.qos).length <= _; unfold XS.wantC; split <;> simp
 obtain ⟨X, hX⟩ : ∃ X : XR, ⟨x.want a.topic a.qos, [], x.wantC a.topic a.qos⟩ = X := ⟨_, rfl⟩
 rw [hX] at CS hps hcs ⊢
 have k1 : W0.cell? ⟨w.heap.size + 1, 1, none⟩ = some (.int .i64 a.qos) := D0.out.x.cell 1
 have k2 : W0.cell? ⟨w.heap.size + 1, 2, none⟩ = some (.string ⟨a.topic.toArray⟩) := D0.out.x.cell 2
 go_enter Tryz.func35, Tryz.ntmps35
 unfold AcV.cells
 rw [hk]
 go_upto_region 8 with (fail)
 rw [<- hW0]
 clear hW0;go_wp2_with fail
 refine CS.out.mono ?_
 rintro e w1 ⟨vp, vc, no, rfl, S', D⟩
 obtain ⟨X1, ps, cs⟩ := X
 dsimp only at hps hcs
 replace hX := hid hX;have D0' := D
 obtain ⟨ap, cp, rfl⟩ := own_slice D0'.packs
 obtain ⟨ac, cc, rfl⟩ := own_slice D0'.chgs
 dsimp only at D D0' ⊢
 clear D0';obtain ⟨np, hnp⟩ : ∃ np, ps.length = np := ⟨_, rfl⟩
 obtain ⟨nc, hnc⟩ : ∃ nc, cs.length = nc := ⟨_, rfl⟩
 rw [hnp, hnc] at D ⊢
 have hs1 : W0.heap.size <= w1.heap.size := D.stp.size
 have hnf1 : Hid (∀ n, w.heap.size <= n -> n <= w.heap.size + 4 -> n ∉ S'.foot) := hid fun n h1 h2 => D.stp.not (hnf.out n h1) (by omega)
 have D1 := hid (D0.out.wrote D.stp.wrote (fun n h1 h2 => hnf.out n h1))
 have hpk0 := D.packs
 have hck0 := D.chgs
 rw [hnp] at hpk0
 rw [hnc] at hck0
 have hpk := hid hpk0;have hck := hid hck0;clear hpk0 hck0;have D := hid D;replace hnp := hid hnp;replace hnc := hid hnc;clear k1 k2
 go_wp2_with (first
  | (refine wS 53 2 rfl (w.heap.size + 1 + 1 + 1) _ #[.slice ap np cp, .slice ac nc cc] rfl rfl D1.out.d rfl rfl (by simp [Value.oneCell']) ?_; intro w2 hb2 hw2; have D2 := hid (D1.out.did hb2 hw2); have hw12 := hid hw2; clear hb2 hw2; have k1 : w2.cell? ⟨w.heap.size + 1, 1, none⟩ = some (.int .i64 a.qos) := D2.out.x.cell 1; have k2 : w2.cell? ⟨w.heap.size + 1, 2, none⟩ = some (.string ⟨a.topic.toArray⟩) := D2.out.x.cell 2)
  | (refine wpList_load_blk rfl 97 _ rfl w.heap.size Z rfl D2.out.g Tryz.underlying97 rfl (by rw [SZ.size]; kernel_rfl) ?_))
 refine (CR.out _).mono ?_
 rintro e w3 ⟨no2, rfl, hb3⟩
 have D3 := hid (D2.out.bel hb3)
 have b3 := hid hb3;unfold didZ
 clear hb3 k1 k2
 go_wp2_with (first
  | (refine wS 97 22 rfl w.heap.size Z Z rfl rfl D3.out.g SZ.size SZ.size SZ.one ?_; intro w4 hb4 hw4; have D4 := hid (D3.out.ses hb4 hw4); have hw34 := hid hw4; clear hb4 hw4)
  | (refine wS 53 2 rfl (w.heap.size + 1 + 1 + 1 + 1) _ #[.slice none 0 0, .slice none 0 0] rfl rfl D4.out.w rfl rfl (by simp [Value.oneCell']) ?_; intro w5 hb5 hw5; have D5 := hid (D4.out.want hb5 hw5); have hw45 := hid hw5; clear hb5 hw5))
 have hw15 : Wrote [w.heap.size, w.heap.size + 1 + 1 + 1, w.heap.size + 1 + 1 + 1 + 1] w1 w5 := (((hw12.out.sub (by simp)).trans (Wrote.of_below b3.out)).trans (hw34.out.sub (by simp))).trans (hw45.out.sub (by simp))
 have hrn : Hid (0 = ([] : List PackV).length) := hid rfl
 have RQ : Hid (w5.ownsRow 0 81 24 (.slice none 0 0) 0 (([] : List PackV).flatMap PackV.cells)) := hid (World.ownsRow_nil _ _ _ _)
 exact bk_DoS_dtailT3
end
section
structure SameB (x y : XS) : Prop where
 most : y.most = x.most
 subs : y.subs = x.subs
theorem act_same (x : XS) (a : AcV) : SameB x (x.act a).x := by
 unfold XS.act
 repeat' split
 ·unfold XS.want; dsimp only; split <;> exact ⟨rfl, rfl⟩
 ·unfold XS.unwant; (repeat' split) <;> exact ⟨rfl, rfl⟩
 ·unfold XS.give; (repeat' split) <;> exact ⟨rfl, rfl⟩
 ·unfold XS.came; (repeat' split) <;> exact ⟨rfl, rfl⟩
 ·unfold XS.hear XS.rel; (repeat' split) <;> exact ⟨rfl, rfl⟩
 ·exact ⟨rfl, rfl⟩
 ·unfold XS.oth XS.comes XS.goes XS.hears; dsimp only; (repeat' split) <;> exact ⟨rfl, rfl⟩
theorem act_seq (x : XS) (a : AcV) : (x.act a).x.o.seq <= x.o.seq + 1 := by
 unfold XS.act
 repeat' split
 ·unfold XS.want; dsimp only; split <;> (try dsimp only) <;> omega
 ·unfold XS.unwant; (repeat' split) <;> (try dsimp only) <;> omega
 ·unfold XS.give
  repeat' split
  all_goals try (dsimp only; omega)
  ·have := (all_same (x.o.put (x.o.row a.topic a.body a.qos a.truth)).start).2
   show (x.o.put (x.o.row a.topic a.body a.qos a.truth)).start.all.s.seq <= _
   have e : (x.o.put (x.o.row a.topic a.body a.qos a.truth)).start.s.seq = x.o.seq + 1 := rfl
   omega
  ·have e : (x.o.put (x.o.row a.topic a.body a.qos a.truth)).seq = x.o.seq + 1 := rfl
   dsimp only; omega
 ·unfold XS.came; (repeat' split) <;> (try dsimp only) <;> omega
 ·unfold XS.hear XS.rel
  repeat' split
  all_goals try (dsimp only; omega)
  exact does_seq x.o ⟨3, 0, [], [], false, a.pack, a.n⟩
 ·exact does_seq x.o ⟨4, 0, [], [], false, 0, 0⟩
 ·unfold XS.oth XS.comes XS.goes XS.hears; dsimp only; (repeat' split) <;> (try dsimp only) <;> omega
theorem act_clen (x : XS) (a : AcV) (h : x.o.l.length <= 1000) (hr : x.o.room <= 1000) : (x.act a).cs.length <= 10000 := by
 unfold XS.act
 repeat' split
 ·show (x.wantC a.topic a.qos).length <= _; unfold XS.wantC; split <;> simp
 ·unfold XS.unwant; (repeat' split) <;> simp
 ·unfold XS.give
  repeat' split
  all_goals try simp
  rename_i hm _
  have h1 := start_len5 (x.o.put (x.o.row a.topic a.body a.qos a.truth)) (by show (x.o.l ++ [_]).length <= 1000; rw [List.length_append]; have := hm.2; simp; omega)
  have h3 : ((x.o.put (x.o.row a.topic a.body a.qos a.truth)).start.all.fin (x.o.seq + 1) x.o.id).cs.length <= 5000 := h1.2
  omega
 ·unfold XS.came; (repeat' split) <;> simp
 ·unfold XS.hear XS.rel
  repeat' split
  all_goals try simp
  have := (doHear_len5 x.o a.pack a.n h).2
  omega
 ·have := (again_len5 x.o h).2
  show (x.o.again.all.fin x.o.seq x.o.id).cs.length <= _
  omega
 ·simp
theorem bag_oth (x : XS) (a : AcV) : (x.oth a).bag = x.bag := by
 unfold XS.oth
 split
 ·exact bag_comes ..
 ·(repeat' split) <;> rfl
theorem PX.act {W R : Int} {c : List UInt8} {x : XS} {R0 : List RowV} (h : PX W R c x) (hp : R0.Perm x.bag) (hs : x.o.seq + 2 <= 4611686018427387904) (a : AcV) (ht : a.topic.length <= 1000000) : PXD W R c R0 (x.act a) := by
 unfold XS.act
 repeat' split
 ·exact h.want hp a.topic a.qos ht
 ·exact h.unwant hp a.topic
 ·exact h.give hp hs a.topic a.body a.qos a.truth ht
 ·exact h.came hp a.n
 ·exact h.hear hp (by omega) a.pack a.n
 ·exact h.anew hp (by omega)
 ·refine ⟨?_, ⟨R0, rfl, by show R0.Perm (x.oth a).bag; rw [bag_oth]; exact hp⟩, fun _ hc => by cases hc⟩
  show PX W R c (x.oth a)
  unfold XS.oth
  split
  ·exact h.comes ..
  ·split
   ·exact h.goes
   ·split
    ·exact h.hears ..
    ·exact h
end
end Go.Proofs.YtoinabapaeebfaaGreatDoor
