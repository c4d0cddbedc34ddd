/- Parts of the proof of SessionRows: contracts of functions that it reaches, and plain lemmas. No condition of their own. -/
import Derived.Test.YtoinabapaeebfaaGreatDoorPk32
import Derived.Test.YtoinabapaeebfaaGreatDoorPk33
import Derived.Test.YtoinabapaeebfaaGreatDoorPk35
import Derived.Test.YtoinabapaeebfaaGreatDoorPk36
import Derived.Test.YtoinabapaeebfaaGreatDoorPk40
import Derived.Test.YtoinabapaeebfaaGreatDoorPk41
import Derived.Deep.Cut
import Derived.Deep.QuietTactic
import Derived.BigQuiet
import Derived.Test.YtoinabapaeebfaaGreatDoorPk19
import Derived.ProofKit
import Derived.OpenShut
import Derived.Deep.Slices
set_option linter.unusedSimpArgs false
set_option linter.unusedVariables false
set_option maxRecDepth 100000
set_option maxHeartbeats 8000000
namespace Go.Proofs.YtoinabapaeebfaaGreatDoor
open Go.RowKit Go.Shelf
section
structure SI (p : Nat) (wf W : World) (K : Int) (x : XS) (S : XLay) : Prop where
 lp : S.p = p
 xb : XB W W.heap.size S x
 fr : ∀ b ∈ S.foot, wf.heap.size <= b
 bel : Below wf.heap.size wf W
 px : PX 2 5 [99] x
 seq : x.o.seq <= K
 most : x.most = 3
 subs : x.subs = 3
section
variable {p : Nat} {wf W W1 : World} {K K' : Int} {x : XS} {S S' : XLay} {r : XR} {a : Option Addr} {n c : Nat}
theorem SI.more (h : SI p wf W K x S) (hb : Below W.heap.size W W1) : SI p wf W1 K x S := ⟨h.lp, (h.xb.below hb).top, h.fr, h.bel.trans (hb.mono h.bel.size), h.px, h.seq, h.most, h.subs⟩
theorem SI.one (h : SI p wf W K x S) (ac : AcV) (D : DoneX W W1 S S' (x.act ac).x (x.act ac).cs a n c) (hp : PX 2 5 [99] (x.act ac).x) (hK : K + 1 <= K') : SI p wf W1 K' (x.act ac).x S' := by
 have hsz := h.bel.size
 have hq := act_seq x ac
 have hm := act_same x ac
 have hs := h.seq
 exact ⟨D.p.trans h.lp, D.xb, fun y hy => (D.stp.sub y hy).elim (fun h1 => h.fr y h1) (fun h1 => by omega), h.bel.trans (D.stp.wrote.below hsz h.fr), hp, by omega, hm.most.trans h.most, hm.subs.trans h.subs⟩
theorem SI.len (h : SI p wf W K x S) : x.o.l.length <= 1000 /\ x.o.room <= 1000 := ⟨by have := h.xb.ob.ok.room; omega, h.xb.ob.ok.room.1⟩
end
structure RowsInX (W : World) (F : List Nat) (a : Option Addr) (n c : Nat) (R : List RowV) : Prop where
 row : W.ownsRow 0 33 9 (.slice a n c) n (R.flatMap RowV.cl)
 len : R.length = n
 out : ∀ x ∈ blk (.slice a n c), x ∉ F
theorem RowsInX.step {W W' : World} {F F' : List Nat} {a : Option Addr} {n c : Nat} {R : List RowV} (h : RowsInX W F a n c R) (hs : Stp F F' W W') : RowsInX W' F' a n c R :=
 ⟨not_own h.row hs.wrote (fun x hx hb => h.out x hb hx), h.len, fun x hx => hs.not (h.out x hx) (blk_lt h.row hx)⟩
theorem RowsInX.bel {W W' : World} {F : List Nat} {a : Option Addr} {n c : Nat} {R : List RowV} (h : RowsInX W F a n c R) (hb : Below W.heap.size W W') : RowsInX W' F a n c R :=
 ⟨ownsRow_below h.row hb, h.len, h.out⟩
theorem bag_kind {R0 R1 : Int} {c : List UInt8} {x : XS} (h : PX R0 R1 c x) : ∀ r ∈ x.bag, kindOK r := by
 intro r hr
 rw [bag_split] at hr
 simp only [List.mem_append, List.mem_singleton] at hr
 rcases hr with (rfl | h1) | h1 | h1
 ·exact .inl rfl
 ·exact .inr (.inr (.inl (h.kind3 r h1)))
 ·exact .inr (.inl (subs_kind x r h1))
 ·exact .inr (.inr (.inr (ins_kind x r h1)))
theorem ac_range {w : World} {a : Option Addr} {n cap : Nat} {xs : List AcV} (h : AcsAt w a n cap xs) {i : Nat} {x : AcV} (hx : xs[i]? = some x) : ∃ g off, a = some ⟨g, off, none⟩ /\ ∀ W, Below w.heap.size w W -> W.rangeAt g (off + i * 13) x.cells.toList := by
 obtain ⟨g, off, ha, hg, hr⟩ := h.at' i x hx
 exact ⟨g, off, ha, fun W hb => range_below hr hg hb⟩
structure SJ (p : Nat) (wf W : World) (K : Int) (x : XS) (S : XLay) (B3 : Nat) (Sc : XLay) (xc : XS) (aw : Option Addr) (nw cw : Nat) : Prop where
 si : SI p wf W K x S
 xt : XT W B3 Sc xc
 d : ∀ b ∈ S.foot, b ∉ Sc.seen
 row : W.ownsRow 0 33 9 (.slice aw nw cw) nw (xc.rows.flatMap RowV.cl)
 dr : ∀ b ∈ blk (.slice aw nw cw), b ∉ S.foot
section
variable {p : Nat} {wf W W1 : World} {K K' : Int} {x xc : XS} {S S' Sc : XLay} {a aw : Option Addr} {n c nw cw B3 : Nat}
theorem SJ.more (h : SJ p wf W K x S B3 Sc xc aw nw cw) (hb : Below W.heap.size W W1) : SJ p wf W1 K x S B3 Sc xc aw nw cw :=
 ⟨h.si.more hb, h.xt.below hb, h.d, ownsRow_below h.row hb, h.dr⟩
theorem foot_gg {w : World} {B : Nat} {S : XLay} {x : XS} (h : XB w B S x) : 1 ∉ S.foot := fun hm => by
 rcases List.mem_append.1 hm with h1 | h1
 ·exact h.gg h1
 ·exact h.ob.gg h1
theorem SJ.one (h : SJ p wf W K x S B3 Sc xc aw nw cw) (ac : AcV) (D : DoneX W W1 S S' (x.act ac).x (x.act ac).cs a n c) (hp : PX 2 5 [99] (x.act ac).x) (hK : K + 1 <= K') : SJ p wf W1 K' (x.act ac).x S' B3 Sc xc aw nw cw :=
 ⟨h.si.one ac D hp hK, h.xt.out D.stp.wrote h.d (foot_gg h.si.xb), fun y hy hs => by
  rcases D.stp.sub y hy with h1 | h1
  ·exact h.d y h1 hs
  ·have := h.xt.lt y hs; omega, not_own h.row D.stp.wrote (fun y hy hb => h.dr y hb hy), fun y hy => D.stp.not (h.dr y hy) (blk_lt h.row hy)⟩
end
theorem walk_SessionRows (al bl : Option Addr) (nl cl ml dl : Nat) (xs ys : List AcV) (w : World) (hA : AcsAt w al nl cl xs) (hB : AcsAt w bl ml dl ys) (hT : TzAt w) (hn : nl <= 1048576) (hm : ml <= 1048576) :
  Calls Tryz.prog 7 #[.slice al nl cl, .slice bl ml dl] w fun e w' => e = .returned (.bool true) /\ Below w.heap.size w w' := by
 have KH := hid known23;have CU := hid law_setup;have hA := hid hA;have hB := hid hB;go_enter Tryz.func7, Tryz.ntmps7
 go_wp2_with (first
  | (at_builtin; refine wpList_plain rfl fun _ hK => ?_; refine wp_append_part _ _ rfl eAc (by decide) w.heap.size (.slice none 0 0) 0 [] rfl (World.ownsRow_nil _ _ _ _) al nl cl (xs.flatMap AcV.cl) rfl (by rw [ac_len, hA.out.len]) (hA.out.src) (ac_one _) (by omega) (by omega) (Nat.le_refl _) fun v1 w1 r1 g1 n1 => ?_; rw [Nat.zero_add] at r1; obtain ⟨a1, c1, hv1⟩ := own_slice r1; subst hv1; refine hK _ _ ?_; clear hK; have hb2 := hid ((Below.refl w.heap.size w).grown g1 (Nat.le_refl _) (fun j e => by cases e)); have hB2 := hid (hB.out.below hb2.out))
  | (at_builtin; refine wpList_plain rfl fun _ hK => ?_; refine wp_append_part _ _ rfl eAc (by decide) w.heap.size (.slice a1 nl c1) nl _ rfl r1 bl ml dl (ys.flatMap AcV.cl) rfl (by rw [ac_len, hB.out.len]) (hB2.out.src) (ac_one _) (by omega) (by omega) hb2.out.size fun v2 w2 r2 g2 n2 => ?_; obtain ⟨a2, c2, hv2⟩ := own_slice r2; subst hv2; refine hK _ _ ?_; clear hK; have hb3 := hid (hb2.out.grown g2 hb2.out.size (fun j e => (r1.lt j e).1)); have hAB := hid (acs_of_own (xs := xs ++ ys) (by simpa using r2) (by have := hA.out.len; have := hB.out.len; simp; omega))))
 have hFew := hid (law23_few 40 a2 (nl + ml) c2 (xs ++ ys) w2 hAB.out (by omega))
 refine hFew.out.mono ?_
 rintro e wf ⟨b, rfl, hfb, hbf⟩
 have hbf := hid (hb3.out.trans (hbf.mono hb3.out.size))
 have hTf := hid (hT.below hbf.out)
 have hAf := hid (hA.out.below hbf.out)
 have hBf := hid (hB.out.below hbf.out)
 replace hfb := hid hfb;clear hAB r1 r2 g1 g2 n1 n2 hb2 hb3 hB2 hFew hA hB;cases b with
 | false =>
  go_wp2_with fail
  refine (KH.out _ hTf.out).mono ?_
  rintro e w8 ⟨rfl, hb8⟩
  go_wp2
  go_ret
  exact ⟨rfl, hbf.out.trans (hb8.mono hbf.out.size)⟩
 | true =>
 go_wp2_with fail
 refine (CU.out _).mono ?_
 rintro e wa ⟨rfl, hba⟩
 go_wp2_with fail
 refine (ses_New 2 5 3 3 [99] wa (hTf.out.below hba) (by decide) (by decide) (by decide) (by decide) (by decide) lM0).mono ?_
 rintro e w0 ⟨S0, rfl, hx0, hst0⟩
 obtain ⟨p, hp⟩ : ∃ p, S0.p = p := ⟨_, rfl⟩
 rw [hp]
 have hst0 := hid ((Stp.below hba).trans hst0)
 have hI0 := hid (show SI p wf w0 0 (XS.new 2 5 3 3 [99]) S0 from ⟨hp, hx0, fun y hy => (hst0.out.sub y hy).resolve_left (by simp), hst0.out.wrote.below (Nat.le_refl _) (by simp), ⟨⟨⟨Rg.nil _, rfl, rfl⟩, rfl, (by show (1:Int) <= 1 /\ (1:Int) <= 65535; decide), (by simp [XS.new]), by kernel_rfl, (by show (0:Int) <= 0; decide)⟩, by simp [XS.new], by simp [XS.new], by simp [XS.new], by simp [XS.new]⟩, Int.le_refl _, rfl, rfl⟩)
 have CR := hid (ses_Rows hx0 (by simp [XS.new]))
 rw [hp] at CR
 clear hx0 hst0 hp hba;go_wp2_with fail
 refine CR.out.mono ?_
 rintro e w1 ⟨v1, rfl, hr1, hb1⟩
 unfold RowsAt at hr1
 obtain ⟨a1, c1, hv1⟩ := own_slice hr1
 subst hv1;obtain ⟨x0, hx0⟩ : ∃ x, XS.new 2 5 3 3 [99] = x := ⟨_, rfl⟩
 rw [hx0] at hI0 hr1 ⊢
 have hI1 := hid (hI0.out.more hb1)
 obtain ⟨rn, hrn⟩ : ∃ k, x0.rows.length = k := ⟨_, rfl⟩
 rw [hrn] at hr1 ⊢
 have hR1 : Hid (∃ R, R.Perm x0.bag /\ RowsInX w1 S0.foot a1 rn c1 R) := hid ⟨x0.rows, hI0.out.px.rows_perm, ownsRow_mono hr1 (Nat.zero_le _), hrn, fun y hy hf => by
  have h1 := (hr1.lt y (mem_blk.1 hy)).1
  have h2 := hI0.out.xb.lt y hf
  omega⟩
 clear hI0 CR hb1 hr1 hx0 hrn;go_wp2_with fail
 go_loopw [7, 8] (fun rv i wr => ∃ (k : Nat) (x : XS) (S : XLay) (R : List RowV) (a : Option Addr) (n c : Nat), rv = .slice a n c /\ i = .int .i64 k /\ k <= nl /\ Hid (SI p wf wr k x S) /\ Hid (R.Perm x.bag) /\ Hid (RowsInX wr S.foot a n c R)) (fun _ i _ => nl - (intOf i).toNat)
 case atStart =>
  obtain ⟨R, h1, h2⟩ := hR1.out
  exact ⟨0, x0, S0, R, a1, rn, c1, rfl, rfl, Nat.zero_le _, hI1, hid h1, hid h2⟩
 case round =>
  obtain ⟨k, x, S, R, a, n, c, rfl, rfl, hk, hI, hpR, hRI⟩ := hrel
  clear hR1 hI1;rcases Nat.lt_or_ge k nl with hlt | hge
  ·have dk : decide ((k : Int) < (nl : Int)) = true := decide_eq_true (by omega)
   have hk40 : nl <= 40 := by have := (hfb.out trivial).1; omega
   obtain ⟨A, hA⟩ : ∃ y, xs[k]? = some y := ⟨_, List.getElem?_eq_getElem (by have := hAf.out.len; omega)⟩
   have hfew := (hfb.out trivial).2 A (List.mem_append_left _ (List.mem_of_getElem? hA))
   obtain ⟨g, off, hga, hr⟩ := ac_range hAf.out hA
   subst hga;have hcl := hAf.out.le
   have hr0 := hid (hr _ hI.out.bel)
   have hsq := hI.out.seq
   have CD := hid (law23_does hI.out.xb hI.out.px.idn (by omega) A (by have := hfew.1; omega) (by have := hfew.2.2.1; omega) (by have := hfew.2.2.2; omega))
   have hPD := hid (hI.out.px.act hpR.out (by omega) A (by have := hfew.1; omega))
   rw [hI.out.lp] at CD
   unfold zS at CD
   have CD := hid CD;have hA := hid hA;have hfew := hid hfew;replace hsq := hid hsq;clear hr;go_wp2_with (refine wpList_load_mid rfl 101 _ rfl g (off + k * 13) rfl A.cells.toList _ hr0.out Tryz.underlying101 rfl (by kernel_rfl) ?_)
   refine CD.out.mono ?_
   rintro e w2 ⟨gv, ad, nd, cd, bd, S', rfl, hG, D⟩
   obtain rfl := D.cnt
   have hI2 := hid (hI.out.one (K' := (k : Int) + 1) A D hPD.out.px (by omega))
   have hR2 := hid (hRI.out.step D.stp)
   have hch := hid D.chgs;have hG := hid hG;have hlen := hid hI.out.len;clear D CD;go_wp2_with (refine wS 97 22 rfl w2.heap.size _ gv rfl rfl (Blk.new w2 _ _) hG.out.size rfl hG.out.one ?_; intro w3 hb3 hw3; have B23 := hid (((Below.refl w2.heap.size w2).alloc (Nat.le_refl _) _).trans (hw3.below (by simp) (by simp))))
   obtain ⟨R', hap, hpR'⟩ := hPD.out.ap
   have hRlen : n <= 2000 := by
    have h1 := rows_len hpR.out
    have h2 := hRI.out.len
    have h3 := hlen.out.1
    have h4 := hI.out.xb.ok.wants
    have h5 := hI.out.xb.ok.under
    have h6 := hI.out.most
    have h7 := hI.out.subs
    omega
   have hR3 := hid (hR2.out.bel B23.out)
   have CA := hid (r20_Apply R R' (x.act A).cs _ _ a ad n c _ cd w3 hR3.out.row hR3.out.len (ownsRow_below hch.out B23.out) rfl (by omega) (act_clen x A hlen.out.1 hlen.out.2) (fun ch hc W => r19_Right_any2 (hPD.out.chg ch hc) hPD.out.px.po.may (by simp) W) (fun r hr => bag_kind hI.out.px r (hpR.out.mem_iff.1 hr)) (fun ch hc => (hPD.out.chg ch hc).kind) hap)
   replace hap := hid hap;have hpR' := hid hpR';go_wp2_with fail
   refine CA.out.mono ?_
   rintro e w4 ⟨v4, rfl, hr4, hb4⟩
   obtain ⟨a4, c4, hv4⟩ := own_slice hr4
   subst hv4;obtain ⟨n4, hn4⟩ : ∃ m, R'.length = m := ⟨_, rfl⟩
   rw [hn4] at hr4 ⊢
   have hI4 := hid ((hI2.out.more B23.out).more hb4)
   have hR4 := hid (show RowsInX w4 S'.foot a4 n4 c4 R' from ⟨ownsRow_mono hr4 (Nat.zero_le _), hn4, fun y hy hf => by
    have h1 := (hr4.lt y (mem_blk.1 hy)).1
    have h2 := (hI2.out.more B23.out).xb.lt y hf
    omega⟩)
   clear hr4 hb4 hR3 hR2 hI2 hch CA B23 hb3 hw3 hn4;go_wp2_with fail
   exact ⟨⟨k + 1, _, S', R', a4, n4, c4, rfl, by go_num, by omega, by simpa using hI4, hpR', hR4⟩, by simp [intOf]; omega⟩
  ·obtain rfl : k = nl := by omega
   have dk : decide ((k : Int) < (k : Int)) = false := by simp
   have hk40 : k + ml <= 40 := by have := (hfb.out trivial).1; omega
   have hq := hid hI.out.seq;have CR := hid fun (W : World) (hb : Below wr.heap.size wr W) => ses_Rows (hI.out.xb.below hb) (fun q hq => (hI.out.px.w2 q hq).2)
   rw [hI.out.lp] at CR
   obtain ⟨rn2, hrn2⟩ : ∃ m, x.rows.length = m := ⟨_, rfl⟩
   have hnn : n = rn2 := by rw [<- hrn2, <- hRI.out.len, hpR.out.length_eq, hI.out.px.rows_perm.length_eq]
   have hRlen : n <= 2000 := by
    have h1 := rows_len hpR.out
    have h2 := hRI.out.len
    have h3 := hI.out.len.1
    have h4 := hI.out.xb.ok.wants
    have h5 := hI.out.xb.ok.under
    have h6 := hI.out.most
    have h7 := hI.out.subs
    omega
   go_wp2_with fail
   refine (CR.out wr (Below.refl _ _)).mono ?_
   rintro e w2 ⟨v2, rfl, hr2, hb2⟩
   unfold RowsAt at hr2
   obtain ⟨a2, c2, hv2⟩ := own_slice hr2
   subst hv2;rw [hrn2] at hr2 ⊢
   subst hnn;have CS := hid (r20_Same R x.rows _ _ a a2 n c c2 w2 (ownsRow_below hRI.out.row hb2) hr2 hRI.out.len (by omega) (hpR.out.trans hI.out.px.rows_perm.symm) ((keys_perm hI.out.px.rows_perm).nodup_iff.2 hI.out.px.nodup) (fun r hr => bag_kind hI.out.px r (hI.out.px.rows_perm.mem_iff.1 hr)))
   have hb2 := hid hb2;replace hrn2 := hid hrn2;clear hr2;go_wp2_with fail
   refine CS.out.mono ?_
   rintro e w3 ⟨rfl, hb3⟩
   have hb3 := hid (hb2.out.trans (hb3.mono hb2.out.size))
   clear CS hb2;go_wp2_with fail
   refine (CU.out _).mono ?_
   rintro e w4 ⟨rfl, hb4⟩
   have hb4 := hid (hb3.out.trans (hb4.mono hb3.out.size))
   clear hb3;have CO := hid (ses_Of_rows hI.out.px hI.out.xb.ok hI.out.xb.ob.ok (by have := hI.out.px.po.wn.room; omega) (by have := hq.out; omega) hpR.out 0 a n c w4 (hTf.out.below (hI.out.bel.trans (hb4.out.mono hI.out.bel.size))) hRI.out.len (ownsRow_below hRI.out.row hb4.out))
   rw [show x.o.window = 2 from hI.out.px.po.wn.win, show x.o.room = 5 from hI.out.px.po.wn.room, hI.out.most, hI.out.subs] at CO
   go_wp2_with fail
   refine CO.out.mono ?_
   rintro e w5 ⟨So, wl, il, rfl, hwl, hil, hXo, hSo⟩
   have hb5 : Below w4.heap.size w4 w5 := hSo.wrote.below (Nat.le_refl _) (by simp)
   have hb5' := hid (hb4.out.trans (hb5.mono hb4.out.size))
   have hfr := fresh_rows hI.out.px hwl hil
   have hkl2 : ∀ q ∈ (x.fresh wl il).wants, q.1.length <= 1000000 := fun q hq => (hI.out.px.w2 q (hwl.mem_iff.1 hq)).2
   have CR2 := hid fun (W : World) (hb : Below w5.heap.size w5 W) => ses_Rows (hXo.below hb) hkl2
   rw [hfr] at CR2
   have CI := hid fun (W : World) (hb : Below w5.heap.size w5 W) => ses_IsOn (hXo.below hb)
   have CC := hid fun (W : World) (hb : Below w5.heap.size w5 W) => ses_Clean (hXo.below hb)
   rw [show (x.fresh wl il).on = false from rfl] at CI
   rw [show (x.fresh wl il).clean = false from rfl] at CC
   clear hSo hXo CO hb5 hb4 hfr hkl2 hwl hil;obtain ⟨po, hpo⟩ : ∃ q, So.p = q := ⟨_, rfl⟩
   rw [hpo] at CR2 CI CC ⊢
   clear hpo;go_wp2_with fail
   refine (CR2.out _ (Below.refl _ _)).mono ?_
   rintro e w6 ⟨v6, rfl, hr6, hb6⟩
   unfold RowsAt at hr6
   obtain ⟨a6, c6, hv6⟩ := own_slice hr6
   subst hv6;rw [hrn2.out] at hr6 ⊢
   have hr6 := hid hr6;have hb6 := hid hb6;have hb6' := hid (hb5'.out.trans (hb6.out.mono hb5'.out.size))
   go_wp2_with fail
   refine (CR.out _ hb6'.out).mono ?_
   rintro e w7 ⟨v7, rfl, hr7, hb7⟩
   unfold RowsAt at hr7
   obtain ⟨a7, c7, hv7⟩ := own_slice hr7
   subst hv7;rw [hrn2.out] at hr7 ⊢
   have CM := hid (r22_SameRows x.rows x.rows _ _ a6 a7 n n c6 c7 w7 (ownsRow_below hr6.out hb7) hr7 hrn2.out hrn2.out (by omega))
   have hb57 := hid (hb6.out.trans (hb7.mono hb6.out.size))
   have hb7' := hid (hb6'.out.trans (hb7.mono hb6'.out.size))
   clear hr7 hb7;go_wp2_with fail
   refine CM.out.mono ?_
   rintro e w8 ⟨b8, rfl, hb8i, hb8⟩
   obtain rfl := hb8i.2 trivial
   have hb58 := hid (hb57.out.trans (hb8.mono hb57.out.size))
   have hb8' := hid (hb7'.out.trans (hb8.mono hb7'.out.size))
   clear hb8i hb8 CM hr6;go_wp2_with fail
   refine (CI.out _ hb58.out).mono ?_
   rintro e w9 ⟨rfl, rfl⟩
   go_wp2_with fail
   refine (CC.out _ hb58.out).mono ?_
   rintro e w9 ⟨rfl, rfl⟩
   have CY := hid (ses_Copy (hI.out.xb.below hb8'.out) hI.out.px (by have := hI.out.px.po.wn.room; omega) (by have := hq.out; omega))
   rw [hI.out.lp] at CY
   clear CI CC CR2 hb57 hb58 hb6 hb6' hb7' hb5';go_wp2_with fail
   refine CY.out.mono ?_
   rintro e w9 ⟨Sc, rfl, hXT, hfc, hb9⟩
   have hXT := hid hXT;have hI9 := hid ((hI.out.more hb8'.out).more hb9)
   have CT := hid fun (W : World) (hb : Below w9.heap.size w9 W) => sesT_Rows (hXT.out.below hb) (fun q hq => (hI.out.px.w2 q hq).2)
   obtain ⟨pc, hpc⟩ : ∃ q, Sc.p = q := ⟨_, rfl⟩
   rw [hpc] at CT ⊢
   have hdis : Hid (∀ b ∈ S.foot, b ∉ Sc.seen) := hid fun y hy hs => by
    have h1 := (hI.out.more hb8'.out).xb.lt y hy
    have h2 := hfc y hs
    omega
   clear CY hfc hb9 hb8';go_wp2_with fail
   refine (CT.out _ (Below.refl _ _)).mono ?_
   rintro e w10 ⟨v10, rfl, hr10, hb10⟩
   unfold RowsAt at hr10
   obtain ⟨aw, cw, hv10⟩ := own_slice hr10
   subst hv10;rw [hrn2.out] at hr10 ⊢
   have hJ0 := hid (show SJ p wf w10 k x S w9.heap.size Sc x aw n cw from ⟨hI9.out.more hb10, hXT.out.below hb10, hdis.out, ownsRow_mono hr10 (Nat.zero_le _), fun y hy hf => by
    have h1 := (hr10.lt y (mem_blk.1 hy)).1
    have h2 := hI9.out.xb.lt y hf
    omega⟩)
   obtain ⟨B3, hB3⟩ : ∃ B, w9.heap.size = B := ⟨_, rfl⟩
   rw [hB3] at hJ0
   have hpx := hid hI.out.px;clear hr10 hb10 hXT hI9 CT hdis CR hI hpR hRI hB3;replace hpc := hid hpc;go_wp2_with fail
   go_loopw [18] (fun i wr => ∃ (j : Nat) (y : XS) (S' : XLay), i = .int .i64 j /\ j <= ml /\ Hid (SJ p wf wr (k + j) y S' B3 Sc x aw n cw)) (fun i _ => ml - (intOf i).toNat)
   case atStart => exact ⟨0, x, S, rfl, Nat.zero_le _, hid (by simpa using hJ0.out)⟩
   case round =>
    obtain ⟨j, y, S', rfl, hj, hJ⟩ := hrel
    clear hJ0;rcases Nat.lt_or_ge j ml with hlt | hge
    ·have dj : decide ((j : Int) < (ml : Int)) = true := decide_eq_true (by omega)
     obtain ⟨A, hA⟩ : ∃ y, ys[j]? = some y := ⟨_, List.getElem?_eq_getElem (by have := hBf.out.len; omega)⟩
     have hfew := (hfb.out trivial).2 A (List.mem_append_right _ (List.mem_of_getElem? hA))
     obtain ⟨g, off, hga, hr⟩ := ac_range hBf.out hA
     subst hga;have hcl := hBf.out.le
     have hr0 := hid (hr _ hJ.out.si.bel)
     have hsq := hJ.out.si.seq
     have CD := hid (law23_does hJ.out.si.xb hJ.out.si.px.idn (by omega) A (by have := hfew.1; omega) (by have := hfew.2.2.1; omega) (by have := hfew.2.2.2; omega))
     have hPD := hid (hJ.out.si.px.act (List.Perm.refl _) (by omega) A (by have := hfew.1; omega)).px
     rw [hJ.out.si.lp] at CD
     unfold zS at CD
     have CD := hid CD;have hA := hid hA;have hfew := hid hfew;replace hsq := hid hsq;clear hr;go_wp2_with (refine wpList_load_mid rfl 101 _ rfl g (off + j * 13) rfl A.cells.toList _ hr0.out Tryz.underlying101 rfl (by kernel_rfl) ?_)
     refine CD.out.out.mono ?_
     rintro e w2 ⟨gv, ad, nd, cd, bd, S2, rfl, hG, D⟩
     have hJ2 := hid (hJ.out.one (K' := (k : Int) + (j + 1 : Nat)) A D hPD.out (by omega))
     clear D CD hG;go_wp2_with fail
     exact ⟨⟨j + 1, _, S2, by go_num, by omega, hJ2⟩, by simp [intOf]; omega⟩
    ·obtain rfl : j = ml := by omega
     have dj : decide ((j : Int) < (j : Int)) = false := by simp
     have CT := hid (sesT_Rows hJ.out.xt (fun q hq => (hpx.out.w2 q hq).2))
     rw [hpc.out] at CT
     go_wp2_with fail
     refine CT.out.mono ?_
     rintro e w2 ⟨v2, rfl, hr2, hb2⟩
     unfold RowsAt at hr2
     obtain ⟨a2, c2, hv2⟩ := own_slice hr2
     subst hv2;rw [hrn2.out] at hr2 ⊢
     have CM := hid (r22_SameRows x.rows x.rows _ _ a2 aw n n c2 cw w2 hr2 (ownsRow_below hJ.out.row hb2) hrn2.out hrn2.out (by omega))
     have hB2 := hid (hJ.out.si.bel.trans (hb2.mono hJ.out.si.bel.size))
     clear hr2 hb2 CT;go_wp2_with fail
     refine CM.out.mono ?_
     rintro e w3 ⟨b3, rfl, hb3i, hb3⟩
     obtain rfl := hb3i.2 trivial
     have hB3 := hid (hB2.out.trans (hb3.mono hB2.out.size))
     clear hb3i hb3 CM;go_wp2_with fail
     refine (KH.out _ (hTf.out.below hB3.out)).mono ?_
     rintro e w4 ⟨rfl, hb4⟩
     go_wp2
     go_ret
     exact ⟨rfl, hbf.out.trans ((hB3.out.trans (hb4.mono hB3.out.size)).mono hbf.out.size)⟩
end
section
open Go.RowKit Go.Shelf Go.Deep
variable {H : Type} {enc : TypeId × Value -> H}
instance : Inhabited ActV := ⟨⟨0, 0, [], [], false, 0, 0⟩⟩
theorem cell_blk_lt {w : World} {b o : Nat} {v : Value} (h : w.cell? ⟨b, o, none⟩ = some v) : b < w.heap.size := by
 rcases Nat.lt_or_ge b w.heap.size with h1 | h1
 ·exact h1
 ·unfold World.cell? at h
  simp [Array.getElem?_eq_none h1] at h
end
section
open Go.RowKit Go.Shelf Go.Deep
variable {H : Type} {enc : TypeId × Value -> H}
instance : Inhabited AcV := ⟨⟨0, 0, [], [], false, false, noWill, 0, 0, 0⟩⟩
theorem will_of {w : World} {base : Nat} {sp : Nat -> Bool} {held : Bool} {fuel : Nat} {cs : List Value} {x : DataW H × List MemPlace} (h : DataW.trod enc Tryz.prog w base sp held fuel 67 cs = some x) : ∃ y : WillV, cs = y.vals.toList := by
 obtain ⟨xs, k, _, _, hlen, hxl, hf⟩ := DataW.trod_struct Tryz.underlying67 h
 have c7 : Tryz.prog.cellsOf 67 = 4 := by kernel_rfl
 rw [c7] at hlen
 have i1 : Tryz.prog.cellsOf 3 = 1 := by kernel_rfl
 have i2 : Tryz.prog.cellsOf 9 = 1 := by kernel_rfl
 have i3 : Tryz.prog.cellsOf 4 = 1 := by kernel_rfl
 match cs, hlen with
 | [v0, v1, v2, v3], _ =>
  have g0 : DataW.trod enc Tryz.prog w base sp held k 9 (([v0, v1, v2, v3].drop 0).take (Tryz.prog.cellsOf 9)) = xs[0]? := hf 0 _ rfl
  have g1 : DataW.trod enc Tryz.prog w base sp held k 9 (([v0, v1, v2, v3].drop 1).take (Tryz.prog.cellsOf 9)) = xs[1]? := hf 1 _ rfl
  have g2 : DataW.trod enc Tryz.prog w base sp held k 3 (([v0, v1, v2, v3].drop 2).take (Tryz.prog.cellsOf 3)) = xs[2]? := hf 2 _ rfl
  have g3 : DataW.trod enc Tryz.prog w base sp held k 4 (([v0, v1, v2, v3].drop 3).take (Tryz.prog.cellsOf 4)) = xs[3]? := hf 3 _ rfl
  rw [i2] at g0 g1
  rw [i1] at g2
  rw [i3] at g3
  have hx7 : xs.length = 4 := hxl
  rw [List.getElem?_eq_getElem (by omega)] at g0 g1 g2 g3
  obtain ⟨s0, e0, _⟩ := DataW.trod_string Tryz.underlying9 g0
  obtain ⟨s1, e1, _⟩ := DataW.trod_string Tryz.underlying9 g1
  obtain ⟨n2, e2, _⟩ := DataW.trod_int Tryz.underlying3 g2
  obtain ⟨b3, e3, _⟩ := DataW.trod_bool Tryz.underlying4 g3
  simp at e0 e1 e2 e3
  subst e0 e1 e2 e3;exact ⟨⟨s0.data.toList, s1.data.toList, n2, b3⟩, by simp [WillV.vals]⟩
theorem ac_of {w : World} {base : Nat} {sp : Nat -> Bool} {held : Bool} {fuel : Nat} {cs : List Value} {x : DataW H × List MemPlace} (h : DataW.trod enc Tryz.prog w base sp held fuel 101 cs = some x) : ∃ y : AcV, cs = y.cells.toList := by
 obtain ⟨xs, k, _, _, hlen, hxl, hf⟩ := DataW.trod_struct Tryz.underlying101 h
 have c7 : Tryz.prog.cellsOf 101 = 13 := by kernel_rfl
 rw [c7] at hlen
 have i1 : Tryz.prog.cellsOf 3 = 1 := by kernel_rfl
 have i2 : Tryz.prog.cellsOf 9 = 1 := by kernel_rfl
 have i3 : Tryz.prog.cellsOf 4 = 1 := by kernel_rfl
 have i4 : Tryz.prog.cellsOf 41 = 1 := by kernel_rfl
 have i5 : Tryz.prog.cellsOf 2 = 1 := by kernel_rfl
 have i6 : Tryz.prog.cellsOf 67 = 4 := by kernel_rfl
 match cs, hlen with
 | [v0, v1, v2, v3, v4, v5, v6, v7, v8, v9, v10, v11, v12], _ =>
  have g0 : DataW.trod enc Tryz.prog w base sp held k 3 (([v0, v1, v2, v3, v4, v5, v6, v7, v8, v9, v10, v11, v12].drop 0).take (Tryz.prog.cellsOf 3)) = xs[0]? := hf 0 _ rfl
  have g1 : DataW.trod enc Tryz.prog w base sp held k 3 (([v0, v1, v2, v3, v4, v5, v6, v7, v8, v9, v10, v11, v12].drop 1).take (Tryz.prog.cellsOf 3)) = xs[1]? := hf 1 _ rfl
  have g2 : DataW.trod enc Tryz.prog w base sp held k 9 (([v0, v1, v2, v3, v4, v5, v6, v7, v8, v9, v10, v11, v12].drop 2).take (Tryz.prog.cellsOf 9)) = xs[2]? := hf 2 _ rfl
  have g3 : DataW.trod enc Tryz.prog w base sp held k 9 (([v0, v1, v2, v3, v4, v5, v6, v7, v8, v9, v10, v11, v12].drop 3).take (Tryz.prog.cellsOf 9)) = xs[3]? := hf 3 _ rfl
  have g4 : DataW.trod enc Tryz.prog w base sp held k 4 (([v0, v1, v2, v3, v4, v5, v6, v7, v8, v9, v10, v11, v12].drop 4).take (Tryz.prog.cellsOf 4)) = xs[4]? := hf 4 _ rfl
  have g5 : DataW.trod enc Tryz.prog w base sp held k 4 (([v0, v1, v2, v3, v4, v5, v6, v7, v8, v9, v10, v11, v12].drop 5).take (Tryz.prog.cellsOf 4)) = xs[5]? := hf 5 _ rfl
  have g6 : DataW.trod enc Tryz.prog w base sp held k 67 (([v0, v1, v2, v3, v4, v5, v6, v7, v8, v9, v10, v11, v12].drop 6).take (Tryz.prog.cellsOf 67)) = xs[6]? := hf 6 _ rfl
  have g7 : DataW.trod enc Tryz.prog w base sp held k 41 (([v0, v1, v2, v3, v4, v5, v6, v7, v8, v9, v10, v11, v12].drop 10).take (Tryz.prog.cellsOf 41)) = xs[7]? := hf 7 _ rfl
  have g8 : DataW.trod enc Tryz.prog w base sp held k 2 (([v0, v1, v2, v3, v4, v5, v6, v7, v8, v9, v10, v11, v12].drop 11).take (Tryz.prog.cellsOf 2)) = xs[8]? := hf 8 _ rfl
  have g9 : DataW.trod enc Tryz.prog w base sp held k 2 (([v0, v1, v2, v3, v4, v5, v6, v7, v8, v9, v10, v11, v12].drop 12).take (Tryz.prog.cellsOf 2)) = xs[9]? := hf 9 _ rfl
  rw [i1] at g0 g1
  rw [i2] at g2 g3
  rw [i3] at g4 g5
  rw [i6] at g6
  rw [i4] at g7
  rw [i5] at g8 g9
  have hx7 : xs.length = 10 := hxl
  rw [List.getElem?_eq_getElem (by omega)] at g0 g1 g2 g3 g4 g5 g6 g7 g8 g9
  obtain ⟨n0, e0, _⟩ := DataW.trod_int Tryz.underlying3 g0
  obtain ⟨n1, e1, _⟩ := DataW.trod_int Tryz.underlying3 g1
  obtain ⟨s2, e2, _⟩ := DataW.trod_string Tryz.underlying9 g2
  obtain ⟨s3, e3, _⟩ := DataW.trod_string Tryz.underlying9 g3
  obtain ⟨b4, e4, _⟩ := DataW.trod_bool Tryz.underlying4 g4
  obtain ⟨b5, e5, _⟩ := DataW.trod_bool Tryz.underlying4 g5
  obtain ⟨wl, e6⟩ := will_of g6
  obtain ⟨n7, e7, _⟩ := DataW.trod_int Tryz.underlying41 g7
  obtain ⟨n8, e8, _⟩ := DataW.trod_int Tryz.underlying2 g8
  obtain ⟨n9, e9, _⟩ := DataW.trod_int Tryz.underlying2 g9
  simp [WillV.vals] at e0 e1 e2 e3 e4 e5 e6 e7 e8 e9
  obtain ⟨e6a, e6b, e6c, e6d⟩ := e6
  subst e0 e1 e2 e3 e4 e5 e6a e6b e6c e6d e7 e8 e9;exact ⟨⟨n0, n1, s2.data.toList, s3.data.toList, b4, b5, wl, n7, n8, n9⟩, by simp [AcV.cells]⟩
theorem acs_of {w : World} {base : Nat} {held : Bool} {fuel : Nat} {cs : List Value} {x : DataW H × List MemPlace} (h : DataW.trod enc Tryz.prog w base (fun _ => true) held fuel 93 cs = some x) :
  ∃ a n cap xs, cs = [.slice a n cap] /\ AcsAt w a n cap xs := by
 have c7 : Tryz.prog.cellsOf 101 = 13 := by kernel_rfl
 rcases open_slice Tryz.underlying93 h with ⟨hcs, _⟩ | ⟨a, len, cap, m, n, D, Pl, rfl, hb, hl, hm, hmm, _, hx⟩
 ·exact ⟨none, 0, 0, [], hcs, rfl, Nat.le_refl _, Nat.zero_le _, fun i x hx => by simp at hx⟩
 ·simp only [if_true] at hmm
  subst hmm;rw [c7] at hx
  have each : ∀ i, i < m -> ∃ y : AcV, w.cells? base (a.add (i * 13)) 13 = some y.cells.toList := fun i hi => by
   obtain ⟨cs', h1, h2⟩ := hx i hi
   obtain ⟨y, rfl⟩ := ac_of h2
   exact ⟨y, h1⟩
  obtain ⟨Y, hY⟩ := choose_lt each
  refine ⟨some a, len, m, (List.range len).map Y, rfl, by simp, hl, hm, fun i y hy => ?_⟩
  have hi : i < len := by have := (List.getElem?_eq_some_iff.1 hy).1; simpa using this
  have hy' : Y i = y := by simpa [hi] using hy
  have h1 := hY i (by omega)
  rw [hy'] at h1
  obtain ⟨_, hlen, hcell⟩ := World.cells?_some h1
  have hc0 := hcell 0 (by omega)
  obtain ⟨b, off, spot⟩ := a
  have hc0' : w.cell? (((⟨b, off, spot⟩ : Addr).add (i * 13)).add 0) = some (.int .i64 y.kind) := hc0
  have hspot : spot = none := by
   obtain ⟨_, _, hz⟩ := World.cells?_some (hY 0 (by omega))
   have hz0 : w.cell? (((⟨b, off, spot⟩ : Addr).add (0 * 13)).add 0) = some (.int .i64 (Y 0).kind) := hz 0 (by omega)
   exact World.cell?_spot hz0
  subst hspot;simp only [Addr.add_mid] at hcell hc0'
  refine ⟨b, off, rfl, ?_, fun j v hj => ?_⟩
  ·exact cell_blk_lt hc0'
  ·have hj7 : j < 13 := by have := (List.getElem?_eq_some_iff.1 hj).1; simpa [AcV.cells] using this
   rw [hcell j hj7]; exact hj
end
end Go.Proofs.YtoinabapaeebfaaGreatDoor
