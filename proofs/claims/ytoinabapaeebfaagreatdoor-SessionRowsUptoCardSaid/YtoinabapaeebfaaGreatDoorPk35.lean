/- Parts of the proof of SessionRows: contracts of functions that it reaches, and plain lemmas. No condition of their own. -/
import Derived.Test.YtoinabapaeebfaaGreatDoorPk33
import Derived.Test.YtoinabapaeebfaaGreatDoorPk32
import Derived.Test.YtoinabapaeebfaaGreatDoorPk34
import Derived.Test.YtoinabapaeebfaaGreatDoorPk21
import Derived.Test.YtoinabapaeebfaaGreatDoorPk22
import Derived.Test.YtoinabapaeebfaaGreatDoorPk25
set_option linter.unusedSimpArgs false
set_option linter.unusedVariables false
set_option maxRecDepth 100000
set_option maxHeartbeats 8000000
namespace Go.Proofs.YtoinabapaeebfaaGreatDoor
open Go.RowKit Go.Shelf
section
theorem bk_DoU_dstore1 {P : Prop} (h : P := by
 refine sQ 16 fun K hK => ?_;simp only [GO];have D7 := hid (D5.out.bel (hb6'.out))
 have BY := hid (hb6'.out)
 refine wW 97 22 rfl (w.heap.size + 1 + 1) rs Z rfl rfl (r1.out.below BY.out) SZ.size r2 SZ.one fun w8 hb8 hw8 => ?_
 refine hK _ _ ⟨⟨fun _ => D7.out.g.wrote hw8 (by simp <;> omega), fun _ => D7.out.d.wrote hw8 (by simp <;> omega), fun _ => D7.out.w.wrote hw8 (by simp <;> omega), trivial⟩, ?_⟩
 clear hK K;try simp only [PT]
 refine tQ [17, 18] ?_;refine dQ (hKQ.out _ _ ?_);clear hKQ KQ;go_wp2
 have l1 := run_loadVar_blk (P := Tryz.prog) hb8 97 Tryz.underlying97 rfl (by rw [SZ.size]; kernel_rfl)
 change bodyPost Tryz.prog Tryz.f35 _ _ _ _
 refine bodyPost_ret (results_ctt Tryz.results35 rfl l1 rfl rfl) rfl ?_
 have hw18 : Wrote [w.heap.size, w.heap.size + 1 + 1 + 1, w.heap.size + 1 + 1 + 1 + 1, w.heap.size + 1 + 1] w1 w8 := ((hw15.out.sub (by simp)).trans (Wrote.of_below BY.out)).trans (hw8.sub (by simp))
 have hn18 : ∀ n, n ∈ [w.heap.size, w.heap.size + 1 + 1 + 1, w.heap.size + 1 + 1 + 1 + 1, w.heap.size + 1 + 1] -> w.heap.size <= n /\ n <= w.heap.size + 4 := by simp; omega
 exact show DoP _ _ _ _ _ from ⟨Z, ac, nc, cc, _, S', rfl, SZ, hnc.out.symm, (D.out.xb.out hw18 (fun n hn => hnf1.out n (hn18 n hn).1 (hn18 n hn).2) (by simp <;> omega)).top, D.out.p, ((Stp.below B0.out).trans D.out.stp).fresh hw18 (fun n hn => (hn18 n hn).1), ownsRow_mono (not_own RC.out (((Wrote.of_below (M := [w.heap.size + 1 + 1]) BY.out)).trans hw8) (fun y hy hb => by have h1 := (RC.out.lt y (mem_blk.1 hb)).1; simp at hy; omega)) (by omega), fun y hy => by have h1 := D.out.free y (List.mem_append_right _ (by rw [hnc.out] at *; exact hy)); exact h1⟩) : P := h
theorem does_anew {w : World} {B : Nat} {S : XLay} {x : XS} (h : XB w B S x) (a : AcV) (hk : a.kind = 9) :
  Calls Tryz.prog 35 #[.pointer (some ⟨S.p, 0, none⟩), .agg zS, .agg a.cells] w (DoP w S x.anew) := by
 have CR := hid fun W => ref_Anew W
 unfold RefDid2 refA didA at CR
 have hz4 : ∀ (j : Nat) (v : Value), ([.string ⟨#[]⟩, .int .i64 0, .int .i64 0, .int .i64 0, .int .i64 0, .slice none 0 0, .slice none 0 0, .slice none 0 0] : List Value)[j]? = some v -> zS[4 + j]? = some v := by
  intro j v hj
  have hlt : j < 8 := (List.getElem?_eq_some_iff.1 hj).1
  obtain rfl | rfl | rfl | rfl | rfl | rfl | rfl | rfl : j = 0 \/ j = 1 \/ j = 2 \/ j = 3 \/ j = 4 \/ j = 5 \/ j = 6 \/ j = 7 := by omega
  all_goals exact hj
 have hsp : splice zS 4 #[.string ⟨#[]⟩, .int .i64 0, .int .i64 0, .int .i64 0, .int .i64 0, .slice none 0 0, .slice none 0 0, .slice none 0 0] = zS := rfl
 have SZ := gs_zero
 obtain ⟨Z, hZ⟩ : ∃ Z, zS = Z := ⟨_, rfl⟩
 rw [hZ] at SZ ⊢
 obtain ⟨W0, hW0⟩ : ∃ W0, W0 = (((((w.alloc (.cells Z 97)).alloc (.cells a.cells 101)).alloc (.cells zS 97)).alloc (.cells didZ 53)).alloc (.cells didZ 53)) := ⟨_, rfl⟩
 have D0 := hid (D5.start w Z zS didZ didZ a rfl)
 rw [<- hW0] at D0
 have B0 : Below w.heap.size w W0 := by
  rw [hW0]
  exact belw
 have B0 := hid B0;have H0 := hid (h.below B0.out).top
 have hw0 : w.heap.size + 1 + 1 + 1 + 1 < W0.heap.size := D0.out.w.lt
 have hnf : ∀ n, w.heap.size <= n -> n ∉ S.foot := fun n hn => h.foot_lt hn
 replace hnf := hid hnf;have hgl := h.ob.tz.lt
 unfold zS AcV.cells didZ at hW0
 rw [hk] at hW0
 rw [hZ] at hz4 hsp
 have CS := hid (ses_Anew_any H0.out)
 have hln := again_len5 x.o (by have := h.ob.ok.room; omega)
 have hps : x.anew.ps.length <= 100000 := by show (x.o.again.all.fin x.o.seq x.o.id).ps.length <= _; omega
 have hcs : x.anew.cs.length <= 100000 := by show (x.o.again.all.fin x.o.seq x.o.id).cs.length <= _; omega
 clear hln;obtain ⟨X, hX⟩ : ∃ X : XR, x.anew = X := ⟨_, rfl⟩
 rw [hX] at CS hps hcs ⊢
 go_enter Tryz.func35, Tryz.ntmps35
 unfold AcV.cells
 rw [hk]
 go_upto_region 23 with (fail)
 rw [<- hW0]
 clear hW0;go_wp2_with fail
 refine CS.out.mono ?_
 rintro e w1 ⟨vp, vc, rfl, S', D⟩
 obtain ⟨X1, ps, cs⟩ := X
 dsimp only at hps hcs
 replace hX := hid hX;have D0' := D
 obtain ⟨ap, cp, rfl⟩ := own_slice D0'.packs
 obtain ⟨ac, cc, rfl⟩ := own_slice D0'.chgs
 dsimp only at D D0' ⊢
 clear D0';obtain ⟨np, hnp⟩ : ∃ np, ps.length = np := ⟨_, rfl⟩
 obtain ⟨nc, hnc⟩ : ∃ nc, cs.length = nc := ⟨_, rfl⟩
 rw [hnp, hnc] at D ⊢
 have hs1 : W0.heap.size <= w1.heap.size := D.stp.size
 have hnf1 : Hid (∀ n, w.heap.size <= n -> n <= w.heap.size + 4 -> n ∉ S'.foot) := hid fun n h1 h2 => D.stp.not (hnf.out n h1) (by omega)
 have D1 := hid (D0.out.wrote D.stp.wrote (fun n h1 h2 => hnf.out n h1))
 have hpk0 := D.packs
 have hck0 := D.chgs
 rw [hnp] at hpk0
 rw [hnc] at hck0
 have hpk := hid hpk0;have hck := hid hck0;clear hpk0 hck0;have D := hid D;replace hnp := hid hnp;replace hnc := hid hnc
 go_wp2_with (first
  | (refine wS 53 2 rfl (w.heap.size + 1 + 1 + 1) _ #[.slice ap np cp, .slice ac nc cc] rfl rfl D1.out.d rfl rfl (by simp [Value.oneCell']) ?_; intro w2 hb2 hw2; have D2 := hid (D1.out.did hb2 hw2); have hw12 := hid hw2; clear hb2 hw2)
  | (refine wpList_load_mid rfl 38 _ rfl w.heap.size 4 rfl [.string ⟨#[]⟩, .int .i64 0, .int .i64 0, .int .i64 0, .int .i64 0, .slice none 0 0, .slice none 0 0, .slice none 0 0] _ (fun j v hj => (D2.out.g.cell (4 + j)).trans (hz4 j v hj)) Tryz.underlying38 rfl (by kernel_rfl) ?_))
 refine (CR.out _).mono ?_
 rintro e w3 ⟨ra, rn, rc, qs, rfl, hrn, hrq, hb3⟩
 have D3 := hid (D2.out.bel hb3)
 have b3 := hid hb3;replace hrn := hid hrn;have hrq := hid hrq;have hs2 : w1.heap.size <= w2.heap.size := hw12.out.size
 have hs3 : w2.heap.size <= w3.heap.size := hb3.size
 clear hb3
 go_wp2_with (first
  | (refine wS 38 8 rfl w3.heap.size _ #[.string ⟨#[]⟩, .int .i64 0, .int .i64 0, .int .i64 0, .int .i64 0, .slice none 0 0, .slice none 0 0, .slice none 0 0] rfl rfl ((Blk.new w3 _ _).alloc _) rfl rfl (by simp [Value.oneCell']) ?_; intro v1 ha1 hv1)
  | (refine wS 53 2 rfl (w3.heap.size + 1) _ #[.slice ra rn rc, .slice none 0 0] rfl rfl ((Blk.new_at _ _ _ _ (by simp)).wrote hv1 (by simp)) rfl rfl (by simp [Value.oneCell']) ?_; intro v2 ha2 hv2; have hB4 := hid (((((Below.refl w3.heap.size w3).alloc (Nat.le_refl _) (.cells zA 38)).alloc (by simp) (.cells didZ 53)).trans (hv1.below (by simp; omega) (by simp))).trans (hv2.below (by have := ha1.lt; omega) (by simp))); have hO4 := hid (ha1.wrote hv2 (by simp))))
 have D4 := hid (D3.out.bel hB4.out)
 have hrq4 := hid (ownsRow_below hrq.out hB4.out)
 have hd4 := hid ha2;have hsv : w3.heap.size <= v2.heap.size := hB4.out.size
 clear ha1 ha2 hv1 hv2;have hSO := hid fun (w' : World) (hf : Blk w' w3.heap.size #[.string ⟨#[]⟩, .int .i64 0, .int .i64 0, .int .i64 0, .int .i64 0, .slice none 0 0, .slice none 0 0, .slice none 0 0] 38) => run_load_blk (P := Tryz.prog) hf 38 Tryz.underlying38 rfl (by kernel_rfl)
 refine regionQ [(1000, fun w' => Blk w' w3.heap.size #[.string ⟨#[]⟩, .int .i64 0, .int .i64 0, .int .i64 0, .int .i64 0, .slice none 0 0, .slice none 0 0, .slice none 0 0] 38), (1000, fun w' => Blk w' (w3.heap.size + 1) #[.slice ra rn rc, .slice none 0 0] 53)] (by kernel_rfl) ⟨hO4.out, hd4.out, trivial⟩ fun KQ hKQ => ?_
 try simp only [PT]
 refine loadQ 0 rfl (by kernel_rfl) (by kernel_rfl) rfl rfl 0 rfl (by kernel_rfl) _ (fun w' hf => hSO.out w' hf) ?_
 try simp only [PT]
 refine lR 1 1 rfl rfl rfl rfl (fun w' hf => run_load_blk hf 53 Tryz.underlying53 rfl (by kernel_rfl)) ?_
 simp only [PT];refine tQ [2] ?_;refine sQ 3 fun K hK => ?_;simp only [GO];refine wp_store_mid 38 97 _ _ rfl 8 (fun w => by kernel_rfl) w.heap.size 4 Z #[.string ⟨#[]⟩, .int .i64 0, .int .i64 0, .int .i64 0, .int .i64 0, .slice none 0 0, .slice none 0 0, .slice none 0 0] rfl rfl D4.out.g.drew rfl (by rw [SZ.size]; decide) (by simp [Value.oneCell']) fun w4 hb4 hw4 => ?_
 rw [hsp] at hb4
 have D4' := hid ((D4.out.bel (Below.refl v2.heap.size v2).drew).ses hb4 hw4)
 refine hK _ _ ⟨⟨fun _ => hO4.out.drew.wrote hw4 (by simp; omega), fun _ => hd4.out.drew.wrote hw4 (by simp; omega), trivial⟩, ?_⟩
 clear hK K;try simp only [PT]
 refine sQ 4 fun K hK => ?_;simp only [GO];refine wW 53 2 rfl (w.heap.size + 1 + 1 + 1 + 1) _ #[.slice ra rn rc, .slice none 0 0] rfl rfl D4'.out.w rfl rfl (by simp [Value.oneCell']) fun w5 hb5 hw5 => ?_
 have D5 := hid (D4'.out.want hb5 hw5)
 refine hK _ _ ⟨⟨fun _ => (hO4.out.drew.wrote hw4 (by simp; omega)).wrote hw5 (by simp; omega), fun _ => (hd4.out.drew.wrote hw4 (by simp; omega)).wrote hw5 (by simp; omega), trivial⟩, ?_⟩
 clear hK K;try simp only [PT]
 refine dQ (hKQ.out _ _ ?_);clear hKQ KQ;have hw15 : Wrote [w.heap.size, w.heap.size + 1 + 1 + 1, w.heap.size + 1 + 1 + 1 + 1] w1 w5 := (((((hw12.out.sub (by simp)).trans (Wrote.of_below b3.out)).trans (Wrote.of_below hB4.out)).trans (Wrote.of_below (Below.refl v2.heap.size v2).drew)).trans (hw4.sub (by simp))).trans (hw5.sub (by simp))
 have RQ : Hid (w5.ownsRow 0 81 24 (.slice ra rn rc) rn (qs.flatMap PackV.cells)) := hid (ownsRow_mono (not_own (not_own hrq4.out.drew hw4 (fun y hy hb => by have h1 := (hrq.out.lt y (mem_blk.1 hb)).1; simp only [List.mem_singleton] at hy; omega)) hw5 (fun y hy hb => by have h1 := (hrq.out.lt y (mem_blk.1 hb)).1; simp only [List.mem_singleton] at hy; omega)) (Nat.zero_le _))
 go_wp2_with fail
 obtain ⟨no, hno⟩ : ∃ no : Int, no = 0 := ⟨_, rfl⟩
 have hw15 := hid hw15;have hfar : ∀ n, n ∈ [w.heap.size, w.heap.size + 1 + 1 + 1, w.heap.size + 1 + 1 + 1 + 1] -> n < W0.heap.size := by simp; omega
 have RP := hid (ownsRow_mono (base' := 0) (not_own hpk.out hw15.out (fun y hy hb => by have h1 := (hpk.out.lt y (mem_blk.1 hb)).1; have h2 := hfar y hy; omega)) (Nat.zero_le _))
 have RC := hid (not_own hck.out hw15.out (fun y hy hb => by have h1 := (hck.out.lt y (mem_blk.1 hb)).1; have h2 := hfar y hy; omega))
 have SD := hid fun (W : World) (e1 : W.ownsRow 0 81 24 (.slice ap np cp) np (ps.flatMap PackV.cells)) (e2 : W.ownsRow 0 115 10 (.slice ac nc cc) nc (cs.flatMap ChangeV.cells)) (e3 : W.ownsRow 0 81 24 (.slice ra rn rc) rn (qs.flatMap PackV.cells)) => by
  have h0 := r_SameDid ps qs cs [] ap ac ra none cp cc rc 0 W (by rw [hnp.out]; exact e1) (by rw [hnc.out]; exact e2) (by rw [<- hrn.out]; exact e3) (World.ownsRow_nil _ _ _ _) (fun h => List.eq_nil_of_length_eq_zero h) hps hcs
  rw [hnp.out, hnc.out, <- hrn.out] at h0
  exact h0
 obtain ⟨rs, r1, r2⟩ := D5.out.r
 have r1 := hid r1;have hS := hid (show (Tryz.prog.info? 97).map (·.size) = some Z.size by rw [SZ.size]; kernel_rfl)
 clear hfar;refine regionQ [(1000, fun w' => Blk w' w.heap.size Z 97), (1000, fun w' => Blk w' (w.heap.size + 1 + 1 + 1) #[.slice ap np cp, .slice ac nc cc] 53), (1000, fun w' => Blk w' (w.heap.size + 1 + 1 + 1 + 1) #[.slice ra rn rc, .slice none 0 0] 53)] (by kernel_rfl) ⟨D5.out.g, D5.out.d, D5.out.w, trivial⟩ fun KQ hKQ => ?_
 try simp only [PT]
 refine loadQ 0 rfl (by kernel_rfl) (by kernel_rfl) rfl rfl 0 rfl (by kernel_rfl) _ (fun w' hf => run_load_blk hf 97 Tryz.underlying97 rfl hS.out) ?_
 try simp only [PT]
 refine tQ [1] ?_;refine lR 2 1 rfl rfl rfl rfl (fun w' hf => by (have k1 := hf.cell 1; simp at k1; go_simp <;> with_reducible rfl)) ?_
 simp only [PT];refine tQ [3, 4, 5, 6] ?_;refine tQ [7, 8, 9, 10, 11] ?_;refine lR 12 1 rfl rfl rfl rfl (fun w' hf => run_load_blk hf 53 Tryz.underlying53 rfl (by kernel_rfl)) ?_
 simp only [PT];refine lR 13 2 rfl rfl rfl rfl (fun w' hf => run_load_blk hf 53 Tryz.underlying53 rfl (by kernel_rfl)) ?_
 simp only [PT];refine sQ 14 fun K hK => ?_;simp only [GO];go_simp;refine (SD.out _ RP.out.drew (ownsRow_mono (base' := 0) RC.out (Nat.zero_le _)).drew RQ.out.drew).mono ?_
 rintro e w6 ⟨⟨bb, rfl, -⟩, hb6⟩
 have hb6' := hid ((Below.refl w5.heap.size w5).drew.trans hb6)
 have D6 := hid (D5.out.bel hb6'.out)
 refine hK _ _ ⟨⟨fun _ => D6.out.g, fun _ => D6.out.d, fun _ => D6.out.w, trivial⟩, ?_⟩
 clear hK K;try simp only [PT]
 refine tQ [15] ?_;exact bk_DoU_dstore1
theorem does_oth {w : World} {B : Nat} {S : XLay} {x : XS} (h : XB w B S x) (a : AcV) (h4 : a.kind ≠ 4) (h5 : a.kind ≠ 5) (h6 : a.kind ≠ 6) (h7 : a.kind ≠ 7) (h8 : a.kind ≠ 8) (h9 : a.kind ≠ 9) (ht : a.will.topic.length <= 1000000) (hbl : a.will.body.length <= 1000000) :
  Calls Tryz.prog 35 #[.pointer (some ⟨S.p, 0, none⟩), .agg zS, .agg a.cells] w (DoP w S ⟨x.oth a, [], []⟩) := by
 have f4 : (a.kind == 4) = false := by simpa using h4
 have f5 : (a.kind == 5) = false := by simpa using h5
 have f6 : (a.kind == 6) = false := by simpa using h6
 have f7 : (a.kind == 7) = false := by simpa using h7
 have f8 : (a.kind == 8) = false := by simpa using h8
 have f9 : (a.kind == 9) = false := by simpa using h9
 obtain ⟨kk, hk⟩ : ∃ kk, a.kind = kk := ⟨_, rfl⟩
 rw [hk] at f4 f5 f6 f7 f8 f9
 have SZ := gs_zero
 obtain ⟨Z, hZ⟩ : ∃ Z, zS = Z := ⟨_, rfl⟩
 rw [hZ] at SZ ⊢
 obtain ⟨W0, hW0⟩ : ∃ W0, W0 = (((((w.alloc (.cells Z 97)).alloc (.cells a.cells 101)).alloc (.cells zS 97)).alloc (.cells didZ 53)).alloc (.cells didZ 53)) := ⟨_, rfl⟩
 have D0 := hid (D5.start w Z zS didZ didZ a rfl)
 rw [<- hW0] at D0
 have B0 : Below w.heap.size w W0 := by
  rw [hW0]
  exact belw
 have B0 := hid B0;have H0 := hid (h.below B0.out).top
 have hw0 : w.heap.size + 1 + 1 + 1 + 1 < W0.heap.size := D0.out.w.lt
 have hnf : ∀ n, w.heap.size <= n -> n ∉ S.foot := fun n hn => h.foot_lt hn
 replace hnf := hid hnf;have hgl := h.ob.tz.lt
 unfold zS AcV.cells didZ at hW0
 rw [hk] at hW0
 have CS := hid (oth_any H0.out a ht hbl)
 rw [hZ] at CS
 have hS := hid (show (Tryz.prog.info? 97).map (·.size) = some Z.size by rw [SZ.size]; kernel_rfl)
 have hA := hid (show (Tryz.prog.info? 101).map (·.size) = some a.cells.size by kernel_rfl)
 go_enter Tryz.func35, Tryz.ntmps35
 unfold AcV.cells
 rw [hk]
 go_upto_region 5 with (fail)
 rw [<- hW0]
 clear hW0
 go_wp2_with (first
  | (refine wpList_load_blk rfl 97 _ rfl w.heap.size Z rfl D0.out.g Tryz.underlying97 rfl hS.out ?_)
  | (refine wpList_load_blk rfl 101 _ rfl (w.heap.size + 1) a.cells rfl D0.out.x Tryz.underlying101 rfl hA.out ?_))
 refine CS.out.mono ?_
 rintro e w1 ⟨gv, b, wv, rfl, SG, hx1, hw1, hwv⟩
 have D1 := hid (D0.out.wrote hw1 (fun n h1 h2 => hnf.out n h1))
 have hfn : Hid (∀ n, w.heap.size <= n -> n < W0.heap.size -> n ∉ XLay.foot { S with wv := wv }) := hid fun n h1 h2 hm => by
  simp only [XLay.foot, XLay.own, List.cons_append, List.mem_cons, List.mem_append] at hm
  have hf := hnf.out n h1
  simp only [XLay.foot, XLay.own, List.cons_append, List.mem_cons, List.mem_append, not_or] at hf
  rcases hm with hm | hm | hm | hm | hm | hm
  ·exact hf.1 hm
  ·exact hf.2.1 hm
  ·exact hf.2.2.1 hm
  ·exact hf.2.2.2.1 hm
  ·rcases hwv n hm with h3 | h3
   ·exact hf.2.2.2.2.1 h3
   ·omega
  ·exact hf.2.2.2.2.2 hm
 have hst : Stp S.foot (XLay.foot { S with wv := wv }) W0 w1 := ⟨hw1, fun y hm => by
  simp only [XLay.foot, XLay.own, List.cons_append, List.mem_cons, List.mem_append] at hm ⊢
  rcases hm with hm | hm | hm | hm | hm | hm
  ·simp [hm]
  ·simp [hm]
  ·simp [hm]
  ·simp [hm]
  ·rcases hwv y hm with h3 | h3
   ·simp [h3]
   ·exact .inr h3
  ·simp [hm]⟩
 have hst := hid hst;have hx1 := hid hx1;have SG := hid SG;have hs1 : W0.heap.size <= w1.heap.size := hw1.size
 clear hw1 hwv;obtain ⟨rs, r1, r2⟩ := D1.out.r
 go_wp2_with (first
  | (refine wS 97 22 rfl w1.heap.size _ gv rfl rfl (Blk.new w1 _ _) SG.out.size rfl SG.out.one ?_; intro w2 hb2 hw2; have B2 := hid (((Below.refl w1.heap.size w1).alloc (Nat.le_refl _) (.cells zS 97)).trans (hw2.below (by simp) (by simp))))
  | (refine wpList_load_blk rfl 97 _ rfl w1.heap.size gv rfl hb2 Tryz.underlying97 rfl (by rw [SG.out.size]; kernel_rfl) ?_)
  | (refine wS 97 22 rfl (w.heap.size + 1 + 1) rs gv rfl rfl (r1.below B2.out) SG.out.size r2 SG.out.one ?_; intro w9 hb9 hw9))
 have l1 := run_loadVar_blk (P := Tryz.prog) hb9 97 Tryz.underlying97 rfl (by rw [SG.out.size]; kernel_rfl)
 refine bodyPost_ret (results_ctt Tryz.results35 rfl l1 rfl rfl) rfl ?_
 exact show DoP _ _ _ _ _ from ⟨gv, none, 0, 0, _, { S with wv := wv }, rfl, SG.out, rfl, ((hx1.out.below B2.out).out hw9 (by simpa using hfn.out _ (by omega) (by omega)) (by simp <;> omega)).top, rfl, (((Stp.below B0.out).trans hst.out).trans (Stp.below B2.out)).fresh hw9 (by simp; omega), World.ownsRow_nil _ _ _ _, by simp [blk, Value.ownBlock]⟩
end
section
theorem law23_does {w : World} {B : Nat} {S : XLay} {x : XS} (h : XB w B S x) (hd : x.ids.Nodup) (hseq : x.o.seq <= 4611686018427387904) (a : AcV) (ht : a.topic.length <= 1000000) (hwt : a.will.topic.length <= 1000000) (hwb : a.will.body.length <= 1000000) :
  Calls Tryz.prog 35 #[.pointer (some ⟨S.p, 0, none⟩), .agg zS, .agg a.cells] w (DoP w S (x.act a)) := by
 unfold XS.act
 by_cases h4 : a.kind = 4
 ·rw [if_pos h4]; exact does_want h a h4 ht
 rw [if_neg h4]
 by_cases h5 : a.kind = 5
 ·rw [if_pos h5]; exact does_unwant h a h5 ht
 rw [if_neg h5]
 by_cases h6 : a.kind = 6
 ·rw [if_pos h6]; exact does_give h a h6 ht hseq
 rw [if_neg h6]
 by_cases h7 : a.kind = 7
 ·rw [if_pos h7]; exact does_came h a h7
 rw [if_neg h7]
 by_cases h8 : a.kind = 8
 ·rw [if_pos h8]; exact does_hear h a h8 hd
 rw [if_neg h8]
 by_cases h9 : a.kind = 9
 ·rw [if_pos h9]; exact does_anew h a h9
 rw [if_neg h9]
 exact does_oth h a h4 h5 h6 h7 h8 h9 hwt hwb
end
section
theorem r19_Right_sub (c f : List UInt8) (q : Int) (w : World) (hm : subMay ⟨2, c, 0, 0, f, [], q, false, 0⟩ = true) (hc : c.length <= 1000000) (hf : f.length <= 1000000) :
  Calls Tryz.prog 50 #[.agg (RowV.vals ⟨2, c, 0, 0, f, [], q, false, 0⟩)] w fun e w' => e = .returned (.bool true) /\ Below w.heap.size w w' := by
 unfold subMay at hm
 simp only [Bool.and_eq_true, decide_eq_true_eq] at hm
 obtain ⟨⟨hbc, hbf⟩, hbq⟩ := hm
 have CC := hid fun w => r19_client c w hc
 rw [hbc] at CC
 have CF := hid fun w => r13_Filter f w hf
 rw [hbf] at CF
 have e0 : f.isEmpty = false := by
  unfold filterR saidR at hbf
  cases f <;> simp at hbf ⊢
 unfold RowV.vals
 have a1 : decide (0 <= q) = true := decide_eq_true (by omega)
 have a2 : decide (q <= 2) = true := decide_eq_true (by omega)
 clear hbc hbf hbq hc hf;go_enter Tryz.func50, Tryz.ntmps50
 go_wp2_with (first
  | (go_at_call 104; refine (CC.out _).mono ?_; rintro e w1 ⟨rfl, hb⟩; have c2 := cellB hb (j := 2) rfl; have c3 := cellB hb (j := 3) rfl; have c4 := cellB hb (j := 4) rfl; have c5 := cellB hb (j := 5) rfl)
  | (go_at_call 30; refine (CF.out _).mono ?_; rintro e w3 ⟨rfl, hb3⟩; have d2 := (hb3.cell (p := ⟨w.heap.size, 2, none⟩) (by have := hb.size; simp at this ⊢; omega)).trans c2; have d3 := (hb3.cell (p := ⟨w.heap.size, 3, none⟩) (by have := hb.size; simp at this ⊢; omega)).trans c3; have d5 := (hb3.cell (p := ⟨w.heap.size, 5, none⟩) (by have := hb.size; simp at this ⊢; omega)).trans c5))
 go_ret
 exact ⟨rfl, (((Below.refl w.heap.size w).alloc (Nat.le_refl _) _).trans (hb.mono (by simp))).trans (hb3.mono (by have := hb.size; simp at this; omega))⟩
theorem r19_Right_in (c : List UInt8) (id : Int) (w : World) (hm : clientR c = true) (hc : c.length <= 1000000) (hi : 1 <= id /\ id <= 65535) :
  Calls Tryz.prog 50 #[.agg (RowV.vals ⟨4, c, 0, id, [], [], 0, false, 0⟩)] w fun e w' => e = .returned (.bool true) /\ Below w.heap.size w w' := by
 have CC := hid fun w => r19_client c w hc
 rw [hm] at CC
 unfold RowV.vals
 have i1 : decide (1 <= id) = true := decide_eq_true (by omega)
 have i2 : decide (id <= 65535) = true := decide_eq_true (by omega)
 clear hm hc hi;go_enter Tryz.func50, Tryz.ntmps50
 go_wp2_with (first
  | (go_at_call 104; refine (CC.out _).mono ?_; rintro e w1 ⟨rfl, hb⟩; have c2 := cellB hb (j := 2) rfl; have c3 := cellB hb (j := 3) rfl))
 go_ret
 exact ⟨rfl, ((Below.refl w.heap.size w).alloc (Nat.le_refl _) _).trans (hb.mono (by simp))⟩
theorem r19_Right_any2 {c : List UInt8} {r : RowV} (h : CRow2 c r) (hm : clientR c = true) (hc : c.length <= 1000000) (w : World) :
  Calls Tryz.prog 50 #[.agg r.vals] w fun e w' => e = .returned (.bool true) /\ Below w.heap.size w w' := by
 rcases h with h | ⟨f, q, rfl, h2, h3⟩ | ⟨i, rfl, hi⟩
 ·exact r19_Right_any h hc w
 ·exact r19_Right_sub c f q w h2 hc h3
 ·exact r19_Right_in c i w hm hc hi
theorem CRow2.kind {c : List UInt8} {r : RowV} (h : CRow2 c r) : kindOK r := by
 rcases h with h | ⟨f, q, rfl, h2, h3⟩ | ⟨i, rfl, hi⟩
 ·exact h.kind
 ·exact .inr (.inl rfl)
 ·exact .inr (.inr (.inr rfl))
end
end Go.Proofs.YtoinabapaeebfaaGreatDoor
