/- Parts of the proof of ScriptCuts: contracts of functions that it reaches, and plain lemmas. No condition of their own. -/
import Derived.Test.YtkghejaimhoboaaGreatDoorPk37
import Derived.Test.YtkghejaimhoboaaGreatDoorPk38
set_option linter.unusedSimpArgs false
set_option linter.unusedVariables false
set_option maxRecDepth 100000
set_option maxHeartbeats 8000000
namespace Go.Proofs.YtkghejaimhoboaaGreatDoor
open Go.RowKit Go.Shelf
section
attribute [local go_sem] Oper.semAt_some
theorem eql_m (x : List UInt8) (W : World) : (binOp .eql 9 (.string ⟨x.toArray⟩) (.string ⟨#[77, 81, 84, 84]⟩)).run Tryz.prog W = .ok (.bool (decide (x = mqtt))) W := by
 go_simp;by_cases h : x = mqtt
 ·subst h; rfl
 ·simp [h]
  exact h
theorem eqg_m (x : List UInt8) (s1 s2 : Operand) (W : World) : (eqGuard .eql 9 s1 s2 (.string ⟨x.toArray⟩) (.string ⟨#[77, 81, 84, 84]⟩)).run Tryz.prog W = .ok () W := by
 go_simp
theorem and_128 : ∀ f : Nat, f < 256 -> decide (0 < bits .and .i64 (f : Int) 128) = has f 128 := by decide +kernel
theorem and_64 : ∀ f : Nat, f < 256 -> decide (0 < bits .and .i64 (f : Int) 64) = has f 64 := by decide +kernel
theorem and_32 : ∀ f : Nat, f < 256 -> decide (0 < bits .and .i64 (f : Int) 32) = has f 32 := by decide +kernel
theorem and_4 : ∀ f : Nat, f < 256 -> decide (0 < bits .and .i64 (f : Int) 4) = has f 4 := by decide +kernel
theorem and_2 : ∀ f : Nat, f < 256 -> decide (0 < bits .and .i64 (f : Int) 2) = has f 2 := by decide +kernel
theorem and_q : ∀ f : Nat, f < 256 -> bits .and .i64 ((f : Int) / 8) 3 = ((f / 8 % 4 : Nat) : Int) := by decide +kernel
theorem readP_1 (f : Nat) (l : List UInt8) : readP 1 f l = readC l := by
 unfold readP
 rw [if_pos rfl]
structure CoI (w : World) (B p : Nat) (y : Pk) (r : List UInt8) (W : World) : Prop where
 rd : Rd W B p r
 rb : Blk W w.heap.size #[.pointer (some ⟨p, 0, none⟩)] 161
 pk : Blk W (w.heap.size + 1) (y.cells h3Z).toArray 52
 wrote : Wrote [p] w W
 two : w.heap.size + 2 <= W.heap.size
theorem CoI.read {w : World} {B p : Nat} {y : Pk} {r r' : List UInt8} {W W' : World} (h : CoI w B p y r W) (hp : p < w.heap.size) (hR : Rd W' B p r') (hw : Wrote [p] W W') : CoI w B p y r' W' :=
 ⟨hR, h.rb.keepW hw (by simp; omega), h.pk.keepW hw (by simp; omega), h.wrote.trans hw, Nat.le_trans h.two hw.size⟩
theorem CoI.put {w : World} {B p : Nat} {y y' : Pk} {r : List UInt8} {W W' : World} (h : CoI w B p y r W) (hB : B <= w.heap.size) (hk : Blk W' (w.heap.size + 1) (y'.cells h3Z).toArray 52) (hw : Wrote [w.heap.size + 1] W W') : CoI w B p y' r W' :=
 ⟨h.rd.wrote hw (by simp; omega), h.rb.keepW hw (by simp), hk, h.wrote.andNew hw (by simp), Nat.le_trans h.two hw.size⟩
theorem CoI.drew {w : World} {B p : Nat} {y : Pk} {r : List UInt8} {W : World} (h : CoI w B p y r W) : CoI w B p y r W.drew :=
 have hb : Below W.heap.size W W.drew := (Below.refl _ W).drew
 ⟨h.rd.below hb, h.rb.below hb, h.pk.below hb, h.wrote.trans (Wrote.of_below hb), Nat.le_trans h.two hb.size⟩
theorem pk_readCon (f0 : Nat) {w : World} {B p : Nat} {l : List UInt8} (h : Rd w B p l) : Calls Tryz.prog 203 #[.agg #[.pointer (some ⟨p, 0, none⟩)], .int .i64 f0] w (PRd 1 f0 B p l w) := by
 have CM := hid pk_must;obtain ⟨W0, hW0⟩ : ∃ W0, w.alloc (.cells #[.pointer (some ⟨p, 0, none⟩)] 161) = W0 := ⟨_, rfl⟩
 have s0 : W0.heap.size = w.heap.size + 1 := by rw [<- hW0]; simp
 obtain ⟨W1, hW1⟩ : ∃ W1, W0.alloc (.cells #[.int .i64 0, .bool false, .bool false, .int .i64 0, .string ⟨#[]⟩, .string ⟨#[]⟩, .int .i64 0, .string ⟨#[]⟩, .bool false, .int .i64 0, .bool false, .string ⟨#[]⟩, .string ⟨#[]⟩, .int .i64 0, .bool false, .bool false, .bool false, .string ⟨#[]⟩, .string ⟨#[]⟩, .bool false, .int .i64 0, .slice none 0 0, .slice none 0 0, .slice none 0 0] 52) = W1 := ⟨_, rfl⟩
 have s1 : W1.heap.size = w.heap.size + 2 := by rw [<- hW1]; simp; omega
 have b0 : Below w.heap.size w W0 := by rw [<- hW0]; exact (Below.refl _ _).alloc (Nat.le_refl _) _
 have b1 : Below w.heap.size w W1 := by rw [<- hW1]; exact b0.alloc b0.size _
 have x1 : Blk W1 w.heap.size #[.pointer (some ⟨p, 0, none⟩)] 161 := by rw [<- hW1, <- hW0]; exact (Blk.new _ _ _).alloc _
 have z1 : Blk W1 (w.heap.size + 1) zPc 52 := by
  have := Blk.new W0 zPc 52
  rw [show W0.alloc (.cells zPc 52) = W1 from hW1, s0] at this
  exact this
 have R1 := h.below b1
 have K1 : Wrote [p] w W1 := Wrote.of_below b1
 have hpb := h.lt
 have hbs := h.base
 clear h b0;have hpw : p < w.heap.size := by omega
 have hrp : Hid (readP 1 f0 l = readC l) := hid (readP_1 f0 l)
 unfold readC at hrp
 have HI := hid (show CoI w B p (zPk 0) l W1 from ⟨R1, x1, z1, K1, by omega⟩)
 have CX := hid (pk_text R1)
 clear R1 z1 K1 b1;go_enter Tryz.func203, Tryz.ntmps203
 go_wp2_with (refine wL 161 rfl rfl x1 Tryz.underlying161 ?_)
 refine CX.out.mono ?_
 rintro e w2 (⟨hno, rfl, hw2⟩ | ⟨⟨s, r⟩, hx, rfl, R2, hw2⟩)
 ·refine ⟨rfl, HI.out.wrote.trans hw2, .inl ⟨?_, rfl⟩⟩
  rw [hrp.out, hno]
  rfl
 dsimp only at R2 ⊢
 have HI2 := hid (HI.out.read hpw R2 hw2)
 rw [hx, Option.bind_some] at hrp
 dsimp only at hrp
 obtain ⟨sv, hsv⟩ : ∃ v, Value.string ⟨s.toArray⟩ = v := ⟨_, rfl⟩
 have EM := eql_m s
 have GM := eqg_m s
 rw [hsv] at EM GM ⊢
 have x2 := HI2.out.rb
 have hsv := hid hsv;clear hw2 R2 x1 HI hx CX;by_cases hm : s = mqtt
 ·rw [decide_eq_true hm] at EM
  rw [if_neg (by simpa using hm)] at hrp
  clear hm;have CN := hid (pk_number HI2.out.rd 1 (by decide) (by decide))
  go_wp2_with (refine wLmG 161 rfl rfl (HI2.out.rb.mid [] [.pointer (some ⟨p, 0, none⟩)] [] rfl) Tryz.underlying161 ?_)
  refine CN.out.mono ?_
  rintro e w3 (⟨hno, rfl, hw3⟩ | ⟨⟨v, r3⟩, hx, rfl, R3, hw3⟩)
  ·refine ⟨rfl, HI2.out.wrote.trans hw3, .inl ⟨?_, rfl⟩⟩
   rw [hrp.out, hno]
   rfl
  dsimp only at R3 ⊢
  have HI3 := hid (HI2.out.read hpw R3 hw3)
  rw [hx, Option.bind_some] at hrp
  dsimp only at hrp
  clear hw3 R3 hx HI2 CN EM GM x2;by_cases h4 : v = 4
  ·subst h4
   rw [if_neg (by simp)] at hrp
   have CN := hid (pk_number HI3.out.rd 1 (by decide) (by decide))
   have x3 := HI3.out.rb
   go_wp2_with (first
    | (go_at_call 95; refine (CM.out _ _).mono ?_; rintro e w9 ⟨rfl, rfl⟩)
    | (refine wL 161 rfl rfl x3 Tryz.underlying161 ?_))
   refine CN.out.mono ?_
   rintro e w4 (⟨hno, rfl, hw4⟩ | ⟨⟨fn, r4⟩, hx, rfl, R4, hw4⟩)
   ·refine ⟨rfl, HI3.out.wrote.trans hw4, .inl ⟨?_, rfl⟩⟩
    rw [hrp.out, hno]
    rfl
   dsimp only at R4 ⊢
   have HI4 := hid (HI3.out.read hpw R4 hw4)
   have hfn : fn < 256 := by have := (rNum_some hx).2; simpa using this
   rw [hx, Option.bind_some] at hrp
   dsimp only at hrp
   clear hw4 R4 hx HI3 CN x3;have e128 := and_128 fn hfn
   have e64 := and_64 fn hfn
   have e32 := and_32 fn hfn
   have e4 := and_4 fn hfn
   have e2 := and_2 fn hfn
   have eq := and_q fn hfn
   obtain ⟨z, hz⟩ : ∃ z : Int, (fn : Int) = z := ⟨_, rfl⟩
   obtain ⟨bu, hbu⟩ : ∃ b, has fn 128 = b := ⟨_, rfl⟩
   obtain ⟨bp, hbp⟩ : ∃ b, has fn 64 = b := ⟨_, rfl⟩
   obtain ⟨br, hbr⟩ : ∃ b, has fn 32 = b := ⟨_, rfl⟩
   obtain ⟨bw, hbw⟩ : ∃ b, has fn 4 = b := ⟨_, rfl⟩
   obtain ⟨bc, hbc⟩ : ∃ b, has fn 2 = b := ⟨_, rfl⟩
   obtain ⟨q, hq⟩ : ∃ q : Int, ((fn / 8 % 4 : Nat) : Int) = q := ⟨_, rfl⟩
   have hq0 : Hid (0 <= q /\ q <= 3) := hid (by omega)
   have hz0 : 0 <= z := by omega
   have hz1 : z < 256 := by omega
   rw [hz] at e128 e64 e32 e4 e2 eq ⊢
   rw [hbu] at e128 hrp
   rw [hbp] at e64 hrp
   rw [hbr] at e32 hrp
   rw [hbw] at e4 hrp
   rw [hbc] at e2 hrp
   rw [hq] at eq hrp
   replace hz := hid hz;replace hfn := hid hfn;clear hbu hbp hbr hbw hbc hq;have p4 := HI4.out.pk
   have t1 := hid trivial;have t2 := hid trivial;have t3 := hid trivial;have t4 := hid trivial;have t5 := hid trivial;have t6 := hid trivial;obtain ⟨c0, hc0⟩ : ∃ c, ((zPk 0).cells h3Z).toArray = c := ⟨_, rfl⟩
   have hs0 : Hid (c0.size = 24) := hid (by rw [<- hc0]; rfl)
   rw [hc0] at p4
   have hc0 := hid hc0
   go_upto_region 5 with (first
    | (clear t1; refine wpList_store_cell rfl 4 52 _ _ rfl (fun w => by kernel_rfl) (w.heap.size + 1) 15 c0 (.bool bu) rfl rfl p4 (by rw [hs0.out]; decide) rfl rfl ?_; intro v1 q1 y1)
    | (clear t2; refine wpList_store_cell rfl 4 52 _ _ rfl (fun w => by kernel_rfl) (w.heap.size + 1) 16 _ (.bool bp) rfl rfl q1 (by simp [hs0.out]) rfl rfl ?_; intro v2 q2 y2)
    | (clear t3; refine wpList_store_cell rfl 4 52 _ _ rfl (fun w => by kernel_rfl) (w.heap.size + 1) 14 _ (.bool br) rfl rfl q2 (by simp [hs0.out]) rfl rfl ?_; intro v3 q3 y3)
    | (clear t4; refine wpList_store_cell rfl 4 52 _ _ rfl (fun w => by kernel_rfl) (w.heap.size + 1) 10 _ (.bool bw) rfl rfl q3 (by simp [hs0.out]) rfl rfl ?_; intro v4 q4 y4)
    | (clear t5; refine wpList_store_cell rfl 4 52 _ _ rfl (fun w => by kernel_rfl) (w.heap.size + 1) 8 _ (.bool bc) rfl rfl q4 (by simp [hs0.out]) rfl rfl ?_; intro v5 q5 y5)
    | (clear t6; refine wpList_store_cell rfl 3 52 _ _ rfl (fun w => by kernel_rfl) (w.heap.size + 1) 13 _ (.int .i64 q) rfl rfl q5 (by simp [hs0.out]) rfl rfl ?_; intro v6 q6 y6_))
   obtain ⟨y6, hy6⟩ : ∃ y : Pk, ({ zPk 0 with hasUser := bu, hasPass := bp, hasWill := bw, clean := bc, will := ⟨[], [], q, br⟩ } : Pk) = y := ⟨_, rfl⟩
   have HI5 := hid (HI4.out.put (y' := y6) (by omega) (by rw [<- hy6]; rw [<- hc0.out] at q6; exact q6) (((((y1.trans y2).trans y3).trans y4).trans y5).trans y6_))
   have hy6 := hid hy6;clear q1 q2 q3 q4 q5 q6 y1 y2 y3 y4 y5 y6_ p4 HI4 e128 e64 e32 e4 e2 eq hs0;have HD := HI5.out.drew
   clear HI5;try simp only [PT]
   refine regionP [(1000, fun w' => Blk w' w.heap.size #[.pointer (some ⟨p, 0, none⟩)] 161)] ?_ (by kernel_rfl) ⟨HD.rb, trivial⟩ fun KQ hKQ => ?_
   ·intro c a d v w h
    cases d <;> exact h
   try simp only [PT]
   obtain ⟨WD, hWD⟩ : ∃ W, v6.drew = W := ⟨_, rfl⟩
   rw [hWD] at HD ⊢
   refine loadQ 0 rfl (by kernel_rfl) (by kernel_rfl) rfl rfl 0 rfl (by kernel_rfl) (.agg #[.pointer (some ⟨p, 0, none⟩)]) (fun w' hf => by (exact run_load_blk hf 161 Tryz.underlying161 rfl (by kernel_rfl))) ?_
   simp only [PT];refine loadQ 2 rfl (by kernel_rfl) (by kernel_rfl) rfl rfl 0 rfl (by kernel_rfl) (.agg #[.pointer (some ⟨p, 0, none⟩)]) (fun w' hf => by (exact run_load_blk hf 161 Tryz.underlying161 rfl (by kernel_rfl))) ?_
   simp only [PT];refine sQ 1 fun K hK => ?_;simp only [GO];go_simp;refine (pk_number HD.rd 2 (by decide) (by decide)).mono ?_
   rintro e w5 (⟨hno, rfl, hw5⟩ | ⟨⟨kn, r5⟩, hx, rfl, R5, hw5⟩)
   ·refine hKQ.out _ _ _ ?_
    refine ⟨rfl, HD.wrote.trans hw5, .inl ⟨?_, rfl⟩⟩
    rw [hrp.out, hno]
    rfl
   dsimp only at R5 ⊢
   rw [hx, Option.bind_some] at hrp
   dsimp only at hrp
   have H5 := HD.read hpw R5 hw5
   refine hK _ _ ⟨⟨fun _ => H5.rb, trivial⟩, ?_⟩
   clear hK K hx hw5 R5;try simp only [PT]
   refine tQ [4] ?_;refine sQ 3 fun K hK => ?_;simp only [GO];go_simp;refine (pk_text H5.rd).mono ?_
   rintro e w6 (⟨hno, rfl, hw6⟩ | ⟨⟨cl, r6⟩, hx, rfl, R6, hw6⟩)
   ·refine hKQ.out _ _ _ ?_
    refine ⟨rfl, H5.wrote.trans hw6, .inl ⟨?_, rfl⟩⟩
    rw [hrp.out, hno]
    rfl
   dsimp only at R6 ⊢
   rw [hx, Option.bind_some] at hrp
   dsimp only at hrp
   have H6 := H5.read hpw R6 hw6
   refine hK _ _ ⟨⟨fun _ => H6.rb, trivial⟩, ?_⟩
   clear hK K hx hw6 R6;try simp only [PT]
   refine sQ 5 fun K hK => ?_;simp only [GO];refine wp_store_cell 2 52 _ _ rfl (fun w => by kernel_rfl) (w.heap.size + 1) 9 _ (.int .i64 (kn : Int)) rfl rfl H6.pk (by show 9 < 24; decide) rfl rfl fun w7 k7 hw7 => ?_
   have H7 := H6.put (y' := { y6 with keep := (kn : Int) }) (by omega) k7 hw7
   refine hK _ _ ⟨⟨fun _ => H7.rb, trivial⟩, ?_⟩
   clear hK K k7 hw7;try simp only [PT]
   refine tQ [6] ?_;refine sQ 7 fun K hK => ?_;simp only [GO];refine wp_store_cell 9 52 _ _ rfl (fun w => by kernel_rfl) (w.heap.size + 1) 7 _ (.string ⟨cl.toArray⟩) rfl rfl H7.pk (by show 7 < 24; decide) rfl rfl fun w8 k8 hw8 => ?_
   have H8 := H7.put (y' := { y6 with keep := (kn : Int), client := cl }) (by omega) k8 hw8
   refine hK _ _ ⟨⟨fun _ => H8.rb, trivial⟩, ?_⟩
   clear hK K k8 hw8;try simp only [PT]
   refine dQ (hKQ.out _ _ _ ?_)
   clear hKQ KQ HD H5 H6 H7 hWD;obtain ⟨y8, hy8⟩ : ∃ y : Pk, ({ y6 with keep := (kn : Int), client := cl } : Pk) = y := ⟨_, rfl⟩
   rw [hy8] at H8
   replace hy8 := hid hy8;have H8 := hid H8;have hw8 : Hid (y8.hasWill = bw) := hid (by rw [<- hy8.out, <- hy6.out])
   have k10 : w8.cell? ⟨w.heap.size + 1, 10, none⟩ = some (.bool bw) := by rw [<- hw8.out]; exact H8.out.pk.cell 10
   have hwill : Hid (({ y8 with will := ⟨[], [], q, br⟩ } : Pk) = y8) := hid (by rw [<- hy8.out, <- hy6.out])
   go_upto_if 50 with fail
   try simp only [PT]
   go_cut [] from 51 to 58 (fun wx => ∃ (wt wb r : List UInt8), Hid (rOpt bw ([], []) rTwo r6 = some ((wt, wb), r)) /\ Hid (CoI w B p { y8 with will := ⟨wt, wb, q, br⟩ } r wx))
   case first =>
    cases bw with
    | false =>
     go_wp2_with fail
     go_meet
     case rel => exact ⟨[], [], r6, hid rfl, hid (by rw [hwill.out]; exact H8.out)⟩
    | true =>
     go_upto_region 7 with fail
     try simp only [PT]
     have HD := H8.out.drew
     refine regionP [(1000, fun w' => Blk w' w.heap.size #[.pointer (some ⟨p, 0, none⟩)] 161)] ?_ (by kernel_rfl) ⟨HD.rb, trivial⟩ fun KQ hKQ => ?_
     ·intro c a d v w h
      cases d <;> exact h
     try simp only [PT]
     obtain ⟨WD, hWD⟩ : ∃ W, w8.drew = W := ⟨_, rfl⟩
     rw [hWD] at HD ⊢
     refine loadQ 0 rfl (by kernel_rfl) (by kernel_rfl) rfl rfl 0 rfl (by kernel_rfl) (.agg #[.pointer (some ⟨p, 0, none⟩)]) (fun w' hf => by (exact run_load_blk hf 161 Tryz.underlying161 rfl (by kernel_rfl))) ?_
     simp only [PT];refine loadQ 2 rfl (by kernel_rfl) (by kernel_rfl) rfl rfl 0 rfl (by kernel_rfl) (.agg #[.pointer (some ⟨p, 0, none⟩)]) (fun w' hf => by (exact run_load_blk hf 161 Tryz.underlying161 rfl (by kernel_rfl))) ?_
     simp only [PT];refine sQ 1 fun K hK => ?_;simp only [GO];go_simp;refine (pk_text HD.rd).mono ?_
     rintro e w9 (⟨hno, rfl, hw9⟩ | ⟨⟨wt, r9⟩, hx9, rfl, R9, hw9⟩)
     ·refine hKQ.out _ _ _ ?_
      refine ⟨rfl, HD.wrote.trans hw9, .inl ⟨?_, rfl⟩⟩
      rw [hrp.out, show rOpt true ([], []) rTwo r6 = none from by unfold rOpt rTwo; rw [if_pos rfl, hno]; rfl]
      rfl
     dsimp only at R9 ⊢
     have H9 := HD.read hpw R9 hw9
     refine hK _ _ ⟨⟨fun _ => H9.rb, trivial⟩, ?_⟩
     clear hK K hw9 R9;try simp only [PT]
     refine tQ [4, 5] ?_;refine sQ 3 fun K hK => ?_;simp only [GO];go_simp;refine (pk_text H9.rd).mono ?_
     rintro e w10 (⟨hno, rfl, hw10⟩ | ⟨⟨wb, r10⟩, hx10, rfl, R10, hw10⟩)
     ·refine hKQ.out _ _ _ ?_
      refine ⟨rfl, H9.wrote.trans hw10, .inl ⟨?_, rfl⟩⟩
      rw [hrp.out, show rOpt true ([], []) rTwo r6 = none from by unfold rOpt rTwo; rw [if_pos rfl, hx9, Option.bind_some]; dsimp only; rw [hno]; rfl]
      rfl
     dsimp only at R10 ⊢
     have H10 := H9.read hpw R10 hw10
     refine hK _ _ ⟨⟨fun _ => H10.rb, trivial⟩, ?_⟩
     clear hK K hw10 R10;try simp only [PT]
     refine sQ 6 fun K hK => ?_;simp only [GO];rw [<- hwill.out] at H10
     refine wp_store_cell 9 52 _ _ rfl (fun w => by kernel_rfl) (w.heap.size + 1) 11 _ (.string ⟨wt.toArray⟩) rfl rfl H10.pk (by show 11 < 24; decide) rfl rfl fun w11 k11 hw11 => ?_
     have H11 := H10.put (y' := { y8 with will := ⟨wt, [], q, br⟩ }) (by omega) k11 hw11
     refine hK _ _ ⟨⟨fun _ => H11.rb, trivial⟩, ?_⟩
     clear hK K k11 hw11;try simp only [PT]
     refine tQ [7, 8] ?_;refine sQ 9 fun K hK => ?_;simp only [GO];refine wp_store_cell 9 52 _ _ rfl (fun w => by kernel_rfl) (w.heap.size + 1) 12 _ (.string ⟨wb.toArray⟩) rfl rfl H11.pk (by show 12 < 24; decide) rfl rfl fun w12 k12 hw12 => ?_
     have H12 := H11.put (y' := { y8 with will := ⟨wt, wb, q, br⟩ }) (by omega) k12 hw12
     refine hK _ _ ⟨⟨fun _ => H12.rb, trivial⟩, ?_⟩
     clear hK K k12 hw12;try simp only [PT]
     refine dQ (hKQ.out _ _ _ ?_)
     have HE := hid H12;have hro : Hid (rOpt true ([], []) rTwo r6 = some ((wt, wb), r10)) := hid (by unfold rOpt rTwo; rw [if_pos rfl, hx9, Option.bind_some]; dsimp only; rw [hx10]; rfl)
     clear hKQ KQ HD H9 H10 H11 hWD hx9 hx10 H12;go_wp2_with fail
     go_meet
     case rel => exact ⟨wt, wb, r10, hro, HE⟩
   case rest =>
    obtain ⟨wt, wb, r7, hro, H9⟩ := hcut
    obtain ⟨wx, hwx⟩ : ∃ W, wc = W := ⟨_, rfl⟩
    rw [hwx] at H9 ⊢
    rw [hro.out, Option.bind_some] at hrp
    dsimp only at hrp
    clear hwx hro H8 k10 hw8 hwill;obtain ⟨y9, hy9⟩ : ∃ y : Pk, ({ y8 with will := ⟨wt, wb, q, br⟩ } : Pk) = y := ⟨_, rfl⟩
    rw [hy9] at H9
    replace hy9 := hid hy9;have k15 : wx.cell? ⟨w.heap.size + 1, 15, none⟩ = some (.bool bu) := by rw [show Value.bool bu = .bool y9.hasUser by rw [<- hy9.out, <- hy8.out, <- hy6.out]]; exact H9.out.pk.cell 15
    go_upto_if 60 with fail
    try simp only [PT]
    have huser : Hid (({ y9 with user := [] } : Pk) = y9) := hid (by rw [<- hy9.out, <- hy8.out, <- hy6.out]; rfl)
    go_cut [] from 61 to 63 (fun wx => ∃ (us r : List UInt8), Hid (rOpt bu [] rTxt r7 = some (us, r)) /\ Hid (CoI w B p { y9 with user := us } r wx))
    case first =>
     cases bu with
     | false =>
      go_wp2_with fail
      go_meet
      case rel => exact ⟨[], r7, hid rfl, hid (by rw [huser.out]; exact H9.out)⟩
     | true =>
      have CT := hid (pk_text H9.out.rd)
      have xx := H9.out.rb
      go_wp2_with (refine wL 161 rfl rfl xx Tryz.underlying161 ?_)
      refine CT.out.mono ?_
      rintro e w14 (⟨hno, rfl, hw14⟩ | ⟨⟨us, r14⟩, hx14, rfl, R14, hw14⟩)
      ·refine ⟨rfl, H9.out.wrote.trans hw14, .inl ⟨?_, rfl⟩⟩
       rw [hrp.out, show rOpt true [] rTxt r7 = none from by unfold rOpt; rw [if_pos rfl, hno]]
       rfl
      dsimp only at R14 ⊢
      have H14 := hid (H9.out.read hpw R14 hw14)
      have p14 := H14.out.pk
      have hro : Hid (rOpt true [] rTxt r7 = some (us, r14)) := hid (by unfold rOpt; rw [if_pos rfl, hx14])
      obtain ⟨cy, hcy⟩ : ∃ c, (y9.cells h3Z).toArray = c := ⟨_, rfl⟩
      have hcs : Hid (cy.size = 24) := hid (by rw [<- hcy]; rfl)
      have hset : Hid (cy.setIfInBounds 17 (.string ⟨us.toArray⟩) = (({ y9 with user := us } : Pk).cells h3Z).toArray) := hid (by rw [<- hcy]; rfl)
      rw [hcy] at p14
      clear hw14 R14 hx14 xx CT hcy;go_wp2_with (refine wpList_store_cell rfl 9 52 _ _ rfl (fun w => by kernel_rfl) (w.heap.size + 1) 17 cy (.string ⟨us.toArray⟩) rfl rfl p14 (by rw [hcs.out]; decide) rfl rfl ?_; intro w15 k15x hw15)
      rw [hset.out] at k15x
      have HE := hid (H14.out.put (y' := { y9 with user := us }) (by omega) k15x hw15)
      clear k15x hw15 p14;go_meet
      case rel => exact ⟨us, r14, hro, HE⟩
    case rest =>
     obtain ⟨us, r8, hro, H10⟩ := hcut
     obtain ⟨wz, hwz⟩ : ∃ W, wc = W := ⟨_, rfl⟩
     rw [hwz] at H10 ⊢
     rw [hro.out, Option.bind_some] at hrp
     dsimp only at hrp
     clear hwz hro H9 k15 huser;obtain ⟨y10, hy10⟩ : ∃ y : Pk, ({ y9 with user := us } : Pk) = y := ⟨_, rfl⟩
     rw [hy10] at H10
     replace hy10 := hid hy10;have k16 : wz.cell? ⟨w.heap.size + 1, 16, none⟩ = some (.bool bp) := by rw [show Value.bool bp = .bool y10.hasPass by rw [<- hy10.out, <- hy9.out, <- hy8.out, <- hy6.out]]; exact H10.out.pk.cell 16
     have hpass : Hid (({ y10 with pass := [] } : Pk) = y10) := hid (by rw [<- hy10.out, <- hy9.out, <- hy8.out, <- hy6.out]; rfl)
     go_upto_if 65 with fail
     try simp only [PT]
     go_cut [] from 66 to 68 (fun wx => ∃ (us r : List UInt8), Hid (rOpt bp [] rTxt r8 = some (us, r)) /\ Hid (CoI w B p { y10 with pass := us } r wx))
     case first =>
      cases bp with
      | false =>
       go_wp2_with fail
       go_meet
       case rel => exact ⟨[], r8, hid rfl, hid (by rw [hpass.out]; exact H10.out)⟩
      | true =>
       have CT := hid (pk_text H10.out.rd)
       have xx := H10.out.rb
       go_wp2_with (refine wL 161 rfl rfl xx Tryz.underlying161 ?_)
       refine CT.out.mono ?_
       rintro e w14 (⟨hno, rfl, hw14⟩ | ⟨⟨us, r14⟩, hx14, rfl, R14, hw14⟩)
       ·refine ⟨rfl, H10.out.wrote.trans hw14, .inl ⟨?_, rfl⟩⟩
        rw [hrp.out, show rOpt true [] rTxt r8 = none from by unfold rOpt; rw [if_pos rfl, hno]]
        rfl
       dsimp only at R14 ⊢
       have H14 := hid (H10.out.read hpw R14 hw14)
       have p14 := H14.out.pk
       have hro : Hid (rOpt true [] rTxt r8 = some (us, r14)) := hid (by unfold rOpt; rw [if_pos rfl, hx14])
       obtain ⟨cy, hcy⟩ : ∃ c, (y10.cells h3Z).toArray = c := ⟨_, rfl⟩
       have hcs : Hid (cy.size = 24) := hid (by rw [<- hcy]; rfl)
       have hset : Hid (cy.setIfInBounds 18 (.string ⟨us.toArray⟩) = (({ y10 with pass := us } : Pk).cells h3Z).toArray) := hid (by rw [<- hcy]; rfl)
       rw [hcy] at p14
       clear hw14 R14 hx14 xx CT hcy;go_wp2_with (refine wpList_store_cell rfl 9 52 _ _ rfl (fun w => by kernel_rfl) (w.heap.size + 1) 18 cy (.string ⟨us.toArray⟩) rfl rfl p14 (by rw [hcs.out]; decide) rfl rfl ?_; intro w15 k15x hw15)
       rw [hset.out] at k15x
       have HE := hid (H14.out.put (y' := { y10 with pass := us }) (by omega) k15x hw15)
       clear k15x hw15 p14;go_meet
       case rel => exact ⟨us, r14, hro, HE⟩
     case rest =>
      obtain ⟨ps, r9, hro, H11⟩ := hcut
      obtain ⟨wv, hwv⟩ : ∃ W, wc = W := ⟨_, rfl⟩
      rw [hwv] at H11 ⊢
      rw [hro.out, Option.bind_some] at hrp
      dsimp only at hrp
      clear hwv hro H10 k16 hpass;obtain ⟨yF, hyF⟩ : ∃ y : Pk, ({ y10 with pass := ps } : Pk) = y := ⟨_, rfl⟩
      rw [hyF] at H11
      have hqF : yF.will.qos = q := by rw [<- hyF, <- hy10.out, <- hy9.out]
      have hfin : Hid (readP 1 f0 l = if fn = connN yF then some ({ yF with kind := 1 }, r9) else none) := hid (by
       rw [hrp.out, <- hyF, <- hy10.out, <- hy9.out, <- hy8.out, <- hy6.out]
       rfl)
      have CC := hid (pk_connects yF h3Z wv (by rw [hqF]; exact hq0.out))
      obtain ⟨yc, hyc⟩ : ∃ yc, (yF.cells h3Z).toArray = yc := ⟨_, rfl⟩
      have hyo : Hid (∀ v ∈ yc.toList, v.oneCell' = true) := hid (by rw [<- hyc]; exact Pk.one yF h3Z)
      have hyz : Hid (yc.size = 24) := hid (by rw [<- hyc]; rfl)
      have iy : Hid ((Tryz.prog.info? 52).map (·.size) = some yc.size) := hid (by rw [hyz.out]; exact (by kernel_rfl : (Tryz.prog.info? 52).map (·.size) = some 24))
      have pF := H11.out.pk
      have hnil : Hid (yF.wants = [] /\ yF.codes = [] /\ yF.filters = []) := hid (by rw [<- hyF, <- hy10.out, <- hy9.out, <- hy8.out, <- hy6.out]; exact ⟨rfl, rfl, rfl⟩)
      rw [hyc] at pF CC
      replace hyc := hid hyc;replace hyF := hid hyF;obtain ⟨cz, hcz⟩ : ∃ c : Int, ((connN yF : Nat) : Int) = c := ⟨_, rfl⟩
      rw [hcz] at CC
      clear hrp hqF;go_wp2_with (refine wL 52 rfl rfl pF Tryz.underlying52 ?_ rfl rfl iy.out)
      refine CC.out.mono ?_
      rintro e w12 ⟨rfl, hb12⟩
      have HJ := hid (H11.out.read hpw (H11.out.rd.below hb12) (Wrote.of_below hb12))
      have pG := HJ.out.pk
      rw [hyc.out] at pG
      clear hb12 pF H11;by_cases hc : z = cz
      ·have d : (z == cz) = true := by simpa using hc
       have hfn2 : Hid (fn = connN yF) := hid (by have := hz.out; omega)
       clear hc hcz
       go_wp2_with (first
        | (go_at_call 95; refine (CM.out _ _).mono ?_; rintro e w9 ⟨rfl, rfl⟩)
        | (refine wL 52 rfl rfl pG Tryz.underlying52 ?_ rfl rfl iy.out)
        | (refine wS 52 24 rfl (w.heap.size + 1) yc yc rfl rfl pG hyz.out hyz.out hyo.out ?_; intro w13 hw13 hr13))
       refine bodyPost_ret (results_cell1 Tryz.results203 rfl (run_loadVar_blk hw13 52 Tryz.underlying52 rfl iy.out)) rfl ?_
       refine ⟨HJ.out.wrote.andNew hr13 (by simp), .inr ⟨yF, h3Z, r9, ?_, by rw [hyc.out], HJ.out.rd.wrote hr13 (by simp; omega), fun M _ => PkN.zero _ _ hnil.out M⟩⟩
       rw [hfin.out, if_pos hfn2.out]
      ·have d : (z == cz) = false := by simpa using hc
       have hfn2 : Hid (fn ≠ connN yF) := hid (by have := hz.out; omega)
       clear hc hcz;go_wp2_with (go_at_call 95; refine (CM.out _ _).mono ?_; rintro e w9 ⟨rfl, rfl⟩)
       refine ⟨rfl, HJ.out.wrote, .inl ⟨?_, rfl⟩⟩
       rw [hfin.out, if_neg hfn2.out]
  ·have d : ((v : Int) == 4) = false := by rw [beq_eq_false_iff_ne]; omega
   rw [if_pos h4] at hrp
   obtain ⟨zv, hzv⟩ : ∃ z : Int, (v : Int) = z := ⟨_, rfl⟩
   rw [hzv] at d ⊢
   clear hzv h4;go_wp2_with (go_at_call 95; refine (CM.out _ _).mono ?_; rintro e w9 ⟨rfl, rfl⟩)
   exact ⟨rfl, HI3.out.wrote, .inl ⟨hrp.out, rfl⟩⟩
 ·rw [decide_eq_false hm] at EM
  rw [if_pos hm] at hrp
  go_wp2_with (go_at_call 95; refine (CM.out _ _).mono ?_; rintro e w9 ⟨rfl, rfl⟩)
  exact ⟨rfl, HI2.out.wrote, .inl ⟨hrp.out, rfl⟩⟩
end
section
attribute [local go_sem] Oper.semAt_some
theorem pk_code1 (W : World) (B p rb : Nat) (l : List UInt8) (hR : Rd W B p l) (hb : Blk W rb #[.pointer (some ⟨p, 0, none⟩)] 161) : Calls Tryz.prog 149 #[.pointer (some ⟨rb, 0, none⟩)] W (TakeP rCode iVl B p l W) := by
 have CN := hid (pk_number hR 1 (by decide) (by decide))
 go_enter Tryz.func149, Tryz.ntmps149
 go_wp2_with (refine wL 161 rfl rfl hb Tryz.underlying161 ?_)
 refine CN.out.mono ?_
 rintro e w1 (⟨hx, rfl, hw1⟩ | ⟨x, hx, rfl, hR1, hw1⟩)
 ·exact ⟨rfl, .inl ⟨by unfold rCode; rw [hx]; rfl, rfl, hw1⟩⟩
 ·have H := hid (show TakeP rCode iVl B p l W (.returned (.int .i64 x.1)) w1 from .inr ⟨((x.1 : Int), x.2), by unfold rCode; rw [hx]; rfl, rfl, hR1, hw1⟩)
  clear hx hR1 hw1;go_wp2_with fail
  go_ret
  exact H.out
theorem pk_want1 (W : World) (B p rb : Nat) (l : List UInt8) (hR : Rd W B p l) (hb : Blk W rb #[.pointer (some ⟨p, 0, none⟩)] 161) (hrp : rb ≠ p) : Calls Tryz.prog 140 #[.pointer (some ⟨rb, 0, none⟩)] W (TakeP rWant wVl B p l W) := by
 obtain ⟨W0, hW0⟩ : ∃ W0, W.alloc (.cells #[.string ⟨#[]⟩, .int .i64 0] 169) = W0 := ⟨_, rfl⟩
 have b0 : Below W.heap.size W W0 := by rw [<- hW0]; exact (Below.refl _ _).alloc (Nat.le_refl _) _
 have z0 : Blk W0 W.heap.size #[.string ⟨#[]⟩, .int .i64 0] 169 := by rw [<- hW0]; exact Blk.new _ _ _
 have R0 := hR.below b0
 have X0 := hb.below b0
 have K0 : Wrote [p] W W0 := Wrote.of_below b0
 have hpb := hR.lt
 have hbs := hR.base
 have hrl := hb.lt
 clear hb hR b0;go_enter Tryz.func140, Tryz.ntmps140
 go_upto_region 1 with fail
 have xD : Blk W0.drew rb #[.pointer (some ⟨p, 0, none⟩)] 161 := X0
 have zD : Blk W0.drew W.heap.size #[.string ⟨#[]⟩, .int .i64 0] 169 := z0
 have RD : Rd W0.drew B p l := R0.below ((Below.refl _ W0).drew)
 have KD : Wrote [p] W W0.drew := K0.trans (Wrote.of_below ((Below.refl _ W0).drew))
 refine regionP [(1000, fun w' => Blk w' rb #[.pointer (some ⟨p, 0, none⟩)] 161)] ?_ (by kernel_rfl) ⟨xD, trivial⟩ fun KQ hKQ => ?_
 ·intro c a d v w h
  cases d <;> exact h
 try simp only [PT]
 obtain ⟨WD, hWD⟩ : ∃ W, W0.drew = W := ⟨_, rfl⟩
 rw [hWD] at xD zD RD KD ⊢
 refine loadQ 0 rfl (by kernel_rfl) (by kernel_rfl) rfl rfl 0 rfl (by kernel_rfl) (.agg #[.pointer (some ⟨p, 0, none⟩)]) (fun w' hf => by (exact run_load_blk hf 161 Tryz.underlying161 rfl (by kernel_rfl))) ?_
 simp only [PT];refine loadQ 2 rfl (by kernel_rfl) (by kernel_rfl) rfl rfl 0 rfl (by kernel_rfl) (.agg #[.pointer (some ⟨p, 0, none⟩)]) (fun w' hf => by (exact run_load_blk hf 161 Tryz.underlying161 rfl (by kernel_rfl))) ?_
 simp only [PT];refine sQ 1 fun K hK => ?_;simp only [GO];go_simp;refine (pk_text RD).mono ?_
 rintro e w1 (⟨hno, rfl, hw1⟩ | ⟨⟨s, r1⟩, hx1, rfl, R1, hw1⟩)
 ·refine hKQ.out _ _ _ ?_
  refine ⟨rfl, .inl ⟨?_, rfl, KD.trans hw1⟩⟩
  unfold rWant
  rw [hno]
  rfl
 dsimp only at R1 ⊢
 have x1 := xD.keepW hw1 (by simpa using hrp)
 have z1 := zD.keepW hw1 (by simp; omega)
 have K1 := KD.trans hw1
 refine hK _ _ ⟨⟨fun _ => x1, trivial⟩, ?_⟩
 clear hK K;try simp only [PT]
 refine sQ 3 fun K hK => ?_;simp only [GO];go_simp;refine (pk_number R1 1 (by decide) (by decide)).mono ?_
 rintro e w2 (⟨hno, rfl, hw2⟩ | ⟨⟨q, r2⟩, hx2, rfl, R2, hw2⟩)
 ·refine hKQ.out _ _ _ ?_
  refine ⟨rfl, .inl ⟨?_, rfl, K1.trans hw2⟩⟩
  unfold rWant
  rw [hx1, Option.bind_some]
  dsimp only
  rw [hno]
  rfl
 dsimp only at R2 ⊢
 have x2 := x1.keepW hw2 (by simpa using hrp)
 have z2 := z1.keepW hw2 (by simp; omega)
 have K2 := K1.trans hw2
 refine hK _ _ ⟨⟨fun _ => x2, trivial⟩, ?_⟩
 clear hK K;try simp only [PT]
 refine tQ [4] ?_;refine sQ 5 fun K hK => ?_;simp only [GO];refine wW 169 2 rfl W.heap.size #[.string ⟨#[]⟩, .int .i64 0] #[.string ⟨s.toArray⟩, .int .i64 (q : Int)] rfl rfl z2 rfl rfl (by simp [Value.oneCell']) fun w3 z3 hw3 => ?_
 have x3 := x2.keepW hw3 (by simp; omega)
 refine hK _ _ ⟨⟨fun _ => x3, trivial⟩, ?_⟩
 clear hK K;try simp only [PT]
 refine dQ (hKQ.out _ _ _ ?_)
 go_wp2_with fail
 refine bodyPost_ret (results_cell1 Tryz.results140 rfl (run_loadVar_blk z3 169 Tryz.underlying169 rfl (by kernel_rfl))) rfl ?_
 refine .inr ⟨(⟨s, (q : Int)⟩, r2), ?_, rfl, R2.wrote hw3 (by simp; omega), K2.andNew hw3 (by simp)⟩
 unfold rWant
 rw [hx1, Option.bind_some]
 dsimp only
 rw [hx2]
 rfl
theorem pk_lread_want (W : World) (B p tb : Nat) (id : Int) (l : List UInt8) (hR : Rd W B p l) (hL : l.length <= 65536) (hb : Blk W tb (({ zPk 0 with id := id } : Pk).cells h3Z).toArray 52) (hB : B <= tb) :
  Calls Tryz.prog 138 #[.agg #[.pointer (some ⟨p, 0, none⟩)], .pointer (some ⟨tb, 0, none⟩)] W (LRd (fun id l => (rAll rWant l.length l).bind fun ws => some ({ zPk 0 with id := id, wants := ws }, [])) id B p tb l W) := by
 have hmf : ∀ (fn : Fn) (first cap : Array Value) (w : World), (Instr.makeFunc fn first cap).run Tryz.prog w = .ok (.func fn first cap) w := fun _ _ _ _ => rfl
 obtain ⟨W0, hW0⟩ : ∃ W0, W.alloc (.cells #[.pointer (some ⟨p, 0, none⟩)] 161) = W0 := ⟨_, rfl⟩
 have b0 : Below W.heap.size W W0 := by rw [<- hW0]; exact (Below.refl _ _).alloc (Nat.le_refl _) _
 have s0 : W0.heap.size = W.heap.size + 1 := by rw [<- hW0]; simp
 have x0 : Blk W0 W.heap.size #[.pointer (some ⟨p, 0, none⟩)] 161 := by rw [<- hW0]; exact Blk.new _ _ _
 have T0 := hid (hb.below b0)
 have K0 : Hid (Wrote [p, tb] W W0) := hid (Wrote.of_below b0)
 have hpb := hR.lt
 have hbs := hR.base
 have htl := hid hb.lt;have hf : fnC 140 := enters_of Tryz.func140 (by kernel_rfl) rfl
 have CT := hid (pk_all_want 140 #[.pointer (some ⟨W.heap.size, 0, none⟩)] rWant (fun l x r h => rWant_less h) (hR.below b0) hL [W.heap.size] (by simp; omega) (by simpa using x0) hf (fun W1 l1 h1 h2 => pk_want1 W1 B p W.heap.size l1 h1 (h2 _ (by simp)) (by omega)))
 clear hb b0 hR;go_enter Tryz.func138, Tryz.ntmps138
 go_wp2_with (refine wL 161 rfl rfl x0 Tryz.underlying161 ?_)
 refine CT.out.mono ?_
 rintro e w1 ⟨hw1, ⟨hno, rfl⟩ | ⟨xs, v, hal, rfl, R1, ho⟩⟩
 ·exact ⟨rfl, K0.out.trans (hw1.sub (by simp)), .inl ⟨by rw [hno]; rfl, rfl⟩⟩
 ·obtain ⟨av, cv, rfl⟩ := own_slice ho
  have T1 := T0.out.keepW hw1 (by simp; omega)
  have K1 := hid (K0.out.trans (hw1.sub (by simp)))
  have hal := hid hal;have HO := hid ho;have R1 := hid R1;have s1 := hid hw1.size;clear hw1 x0 ho;obtain ⟨n, hn⟩ : ∃ n, xs.length = n := ⟨_, rfl⟩
  rw [hn] at HO ⊢
  have hn := hid hn;obtain ⟨tc, htc⟩ : ∃ tc, (({ zPk 0 with id := id } : Pk).cells h3Z).toArray = tc := ⟨_, rfl⟩
  have hts : Hid (tc.size = 24) := hid (by rw [<- htc]; rfl)
  have hty : Hid (tc.setIfInBounds 21 (.slice av n cv) = (({ zPk 0 with id := id, wants := xs } : Pk).cells ⟨⟨av, n, cv⟩, hdZ, hdZ⟩).toArray) := hid (by rw [<- htc]; rfl)
  rw [htc] at T1
  clear htc T0;go_wp2_with (refine wpList_store_cell rfl 48 52 _ _ rfl (fun w => by kernel_rfl) tb 21 tc (.slice av n cv) rfl rfl T1 (by rw [hts.out]; decide) rfl rfl ?_; intro w3 hw3 hr3)
  rw [hty.out] at hw3
  have H : LRd (fun id l => (rAll rWant l.length l).bind fun ws => some ({ zPk 0 with id := id, wants := ws }, [])) id B p tb l W (.returned (.tuple #[])) w3 := ⟨K1.out.trans (hr3.sub (by simp)), .inr ⟨{ zPk 0 with id := id, wants := xs }, ⟨⟨av, n, cv⟩, hdZ, hdZ⟩, [], by rw [hal.out]; rfl, rfl, R1.out.wrote hr3 (by simp; omega), hw3, fun M hM => ?_⟩⟩
  ·go_end0
   exact H
  ·have hlp : LsN WantV.cl 2 w3 ⟨av, n, cv⟩ xs M := by
    refine own_lsN (f := WantV.cl) (size := 2) (fun x => rfl) (not_own HO.out hr3 (fun y hy hm => ?_)) hn.out (fun c hc => ?_)
    ·have := (HO.out.lt y (mem_blk.1 hm)).1
     have := htl.out
     simp at hy
     omega
    ·have := hM c hc
     omega
   exact ⟨hlp, LsN.nil w3 M, LsN.nil w3 M⟩
theorem pk_lread_int (W : World) (B p tb : Nat) (id : Int) (l : List UInt8) (hR : Rd W B p l) (hL : l.length <= 65536) (hb : Blk W tb (({ zPk 0 with id := id } : Pk).cells h3Z).toArray 52) (hB : B <= tb) :
  Calls Tryz.prog 147 #[.agg #[.pointer (some ⟨p, 0, none⟩)], .pointer (some ⟨tb, 0, none⟩)] W (LRd (fun id l => (rAll rCode l.length l).bind fun ws => some ({ zPk 0 with id := id, codes := ws }, [])) id B p tb l W) := by
 have hmf : ∀ (fn : Fn) (first cap : Array Value) (w : World), (Instr.makeFunc fn first cap).run Tryz.prog w = .ok (.func fn first cap) w := fun _ _ _ _ => rfl
 obtain ⟨W0, hW0⟩ : ∃ W0, W.alloc (.cells #[.pointer (some ⟨p, 0, none⟩)] 161) = W0 := ⟨_, rfl⟩
 have b0 : Below W.heap.size W W0 := by rw [<- hW0]; exact (Below.refl _ _).alloc (Nat.le_refl _) _
 have s0 : W0.heap.size = W.heap.size + 1 := by rw [<- hW0]; simp
 have x0 : Blk W0 W.heap.size #[.pointer (some ⟨p, 0, none⟩)] 161 := by rw [<- hW0]; exact Blk.new _ _ _
 have T0 := hid (hb.below b0)
 have K0 : Hid (Wrote [p, tb] W W0) := hid (Wrote.of_below b0)
 have hpb := hR.lt
 have hbs := hR.base
 have htl := hid hb.lt;have hf : fnC 149 := enters_of Tryz.func149 (by kernel_rfl) rfl
 have CT := hid (pk_all_int 149 #[.pointer (some ⟨W.heap.size, 0, none⟩)] rCode (fun l x r h => rCode_less h) (hR.below b0) hL [W.heap.size] (by simp; omega) (by simpa using x0) hf (fun W1 l1 h1 h2 => pk_code1 W1 B p W.heap.size l1 h1 (h2 _ (by simp))))
 clear hb b0 hR;go_enter Tryz.func147, Tryz.ntmps147
 go_wp2_with (refine wL 161 rfl rfl x0 Tryz.underlying161 ?_)
 refine CT.out.mono ?_
 rintro e w1 ⟨hw1, ⟨hno, rfl⟩ | ⟨xs, v, hal, rfl, R1, ho⟩⟩
 ·exact ⟨rfl, K0.out.trans (hw1.sub (by simp)), .inl ⟨by rw [hno]; rfl, rfl⟩⟩
 ·obtain ⟨av, cv, rfl⟩ := own_slice ho
  have T1 := T0.out.keepW hw1 (by simp; omega)
  have K1 := hid (K0.out.trans (hw1.sub (by simp)))
  have hal := hid hal;have HO := hid ho;have R1 := hid R1;have s1 := hid hw1.size;clear hw1 x0 ho;obtain ⟨n, hn⟩ : ∃ n, xs.length = n := ⟨_, rfl⟩
  rw [hn] at HO ⊢
  have hn := hid hn;obtain ⟨tc, htc⟩ : ∃ tc, (({ zPk 0 with id := id } : Pk).cells h3Z).toArray = tc := ⟨_, rfl⟩
  have hts : Hid (tc.size = 24) := hid (by rw [<- htc]; rfl)
  have hty : Hid (tc.setIfInBounds 22 (.slice av n cv) = (({ zPk 0 with id := id, codes := xs } : Pk).cells ⟨hdZ, ⟨av, n, cv⟩, hdZ⟩).toArray) := hid (by rw [<- htc]; rfl)
  rw [htc] at T1
  clear htc T0;go_wp2_with (refine wpList_store_cell rfl 49 52 _ _ rfl (fun w => by kernel_rfl) tb 22 tc (.slice av n cv) rfl rfl T1 (by rw [hts.out]; decide) rfl rfl ?_; intro w3 hw3 hr3)
  rw [hty.out] at hw3
  have H : LRd (fun id l => (rAll rCode l.length l).bind fun ws => some ({ zPk 0 with id := id, codes := ws }, [])) id B p tb l W (.returned (.tuple #[])) w3 := ⟨K1.out.trans (hr3.sub (by simp)), .inr ⟨{ zPk 0 with id := id, codes := xs }, ⟨hdZ, ⟨av, n, cv⟩, hdZ⟩, [], by rw [hal.out]; rfl, rfl, R1.out.wrote hr3 (by simp; omega), hw3, fun M hM => ?_⟩⟩
  ·go_end0
   exact H
  ·have hlp : LsN iCl 1 w3 ⟨av, n, cv⟩ xs M := by
    refine own_lsN (f := iCl) (size := 1) (fun x => rfl) (not_own HO.out hr3 (fun y hy hm => ?_)) hn.out (fun c hc => ?_)
    ·have := (HO.out.lt y (mem_blk.1 hm)).1
     have := htl.out
     simp at hy
     omega
    ·have := hM c hc
     omega
   exact ⟨LsN.nil w3 M, hlp, LsN.nil w3 M⟩
theorem pk_lread_str (W : World) (B p tb : Nat) (id : Int) (l : List UInt8) (hR : Rd W B p l) (hL : l.length <= 65536) (hb : Blk W tb (({ zPk 0 with id := id } : Pk).cells h3Z).toArray 52) (hB : B <= tb) :
  Calls Tryz.prog 154 #[.agg #[.pointer (some ⟨p, 0, none⟩)], .pointer (some ⟨tb, 0, none⟩)] W (LRd (fun id l => (rAll rTxt l.length l).bind fun ws => some ({ zPk 0 with id := id, filters := ws }, [])) id B p tb l W) := by
 have hmf : ∀ (fn : Fn) (first cap : Array Value) (w : World), (Instr.makeFunc fn first cap).run Tryz.prog w = .ok (.func fn first cap) w := fun _ _ _ _ => rfl
 obtain ⟨W0, hW0⟩ : ∃ W0, W.alloc (.cells #[.pointer (some ⟨p, 0, none⟩)] 161) = W0 := ⟨_, rfl⟩
 have b0 : Below W.heap.size W W0 := by rw [<- hW0]; exact (Below.refl _ _).alloc (Nat.le_refl _) _
 have s0 : W0.heap.size = W.heap.size + 1 := by rw [<- hW0]; simp
 have x0 : Blk W0 W.heap.size #[.pointer (some ⟨p, 0, none⟩)] 161 := by rw [<- hW0]; exact Blk.new _ _ _
 have T0 := hid (hb.below b0)
 have K0 : Hid (Wrote [p, tb] W W0) := hid (Wrote.of_below b0)
 have hpb := hR.lt
 have hbs := hR.base
 have htl := hid hb.lt;have hf : fnC 141 := enters_of Tryz.func141 (by kernel_rfl) rfl
 have CT := hid (pk_all_str 141 #[.agg #[.pointer (some ⟨p, 0, none⟩)]] rTxt (fun l x r h => rTxt_less h) (hR.below b0) hL [] (by simp) (by simp) hf (fun W1 l1 h1 h2 => (pk_text h1).mono fun e w' h => h.elim (fun k => .inl ⟨k.1, k.2.1, k.2.2⟩) (fun ⟨x, k⟩ => .inr ⟨x, k.1, k.2.1, k.2.2.1, k.2.2.2⟩)))
 clear hb b0 hR;go_enter Tryz.func154, Tryz.ntmps154
 go_wp2_with (refine wL 161 rfl rfl x0 Tryz.underlying161 ?_)
 refine CT.out.mono ?_
 rintro e w1 ⟨hw1, ⟨hno, rfl⟩ | ⟨xs, v, hal, rfl, R1, ho⟩⟩
 ·exact ⟨rfl, K0.out.trans (hw1.sub (by simp)), .inl ⟨by rw [hno]; rfl, rfl⟩⟩
 ·obtain ⟨av, cv, rfl⟩ := own_slice ho
  have T1 := T0.out.keepW hw1 (by simp; omega)
  have K1 := hid (K0.out.trans (hw1.sub (by simp)))
  have hal := hid hal;have HO := hid ho;have R1 := hid R1;have s1 := hid hw1.size;clear hw1 x0 ho;obtain ⟨n, hn⟩ : ∃ n, xs.length = n := ⟨_, rfl⟩
  rw [hn] at HO ⊢
  have hn := hid hn;obtain ⟨tc, htc⟩ : ∃ tc, (({ zPk 0 with id := id } : Pk).cells h3Z).toArray = tc := ⟨_, rfl⟩
  have hts : Hid (tc.size = 24) := hid (by rw [<- htc]; rfl)
  have hty : Hid (tc.setIfInBounds 23 (.slice av n cv) = (({ zPk 0 with id := id, filters := xs } : Pk).cells ⟨hdZ, hdZ, ⟨av, n, cv⟩⟩).toArray) := hid (by rw [<- htc]; rfl)
  rw [htc] at T1
  clear htc T0;go_wp2_with (refine wpList_store_cell rfl 50 52 _ _ rfl (fun w => by kernel_rfl) tb 23 tc (.slice av n cv) rfl rfl T1 (by rw [hts.out]; decide) rfl rfl ?_; intro w3 hw3 hr3)
  rw [hty.out] at hw3
  have H : LRd (fun id l => (rAll rTxt l.length l).bind fun ws => some ({ zPk 0 with id := id, filters := ws }, [])) id B p tb l W (.returned (.tuple #[])) w3 := ⟨K1.out.trans (hr3.sub (by simp)), .inr ⟨{ zPk 0 with id := id, filters := xs }, ⟨hdZ, hdZ, ⟨av, n, cv⟩⟩, [], by rw [hal.out]; rfl, rfl, R1.out.wrote hr3 (by simp; omega), hw3, fun M hM => ?_⟩⟩
  ·go_end0
   exact H
  ·have hlp : LsN sCl 1 w3 ⟨av, n, cv⟩ xs M := by
    refine own_lsN (f := sCl) (size := 1) (fun x => rfl) (not_own HO.out hr3 (fun y hy hm => ?_)) hn.out (fun c hc => ?_)
    ·have := (HO.out.lt y (mem_blk.1 hm)).1
     have := htl.out
     simp at hy
     omega
    ·have := hM c hc
     omega
   exact ⟨LsN.nil w3 M, LsN.nil w3 M, hlp⟩
theorem pk_lread_ans (W : World) (B p tb : Nat) (id : Int) (l : List UInt8) (hR : Rd W B p l) (hb : Blk W tb (({ zPk 0 with id := id } : Pk).cells h3Z).toArray 52) :
  Calls Tryz.prog 214 #[.agg #[.pointer (some ⟨p, 0, none⟩)], .pointer (some ⟨tb, 0, none⟩)] W (LRd (fun id l => some ({ zPk 0 with id := id }, l)) id B p tb l W) := by
 have b0 : Below W.heap.size W (W.alloc (.cells #[.pointer (some ⟨p, 0, none⟩)] 161)) := (Below.refl _ _).alloc (Nat.le_refl _) _
 go_enter Tryz.func214, Tryz.ntmps214
 go_wp2_with fail
 go_end0
 exact ⟨Wrote.of_below b0, .inr ⟨{ zPk 0 with id := id }, h3Z, l, rfl, rfl, hR.below b0, hb.below b0, fun M _ => PkN.zero _ _ ⟨rfl, rfl, rfl⟩ M⟩⟩
end
end Go.Proofs.YtkghejaimhoboaaGreatDoor
