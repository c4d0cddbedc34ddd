/- Parts of the proof of ScriptRaws. -/
import Derived.Test.YtkghejaimhoboaaGreatDoorPr29
import Derived.Test.YtkghejaimhoboaaGreatDoorPr38
import Derived.Test.YtkghejaimhoboaaGreatDoorPr39
import Derived.Test.YtkghejaimhoboaaGreatDoorPr37
set_option linter.unusedSimpArgs false
set_option linter.unusedVariables false
set_option maxRecDepth 100000
set_option maxHeartbeats 8000000
namespace Go.Proofs.YtkghejaimhoboaaGreatDoor
open Go.RowKit Go.Shelf Go.Proofs.Tryz
section
attribute [local go_sem] Oper.semAt_some
theorem r28_Right(s:ScC)(w:World)(hs:s.In w)(hp:∀x∈s.ts,x.t.kind=2->PkS x.t.pk):Calls prog 15 #[.agg s.cells.toArray] w (Tells (rightS s.sc) w):=by
 obtain⟨R,hR⟩:=gen_of (rightS s.sc);have hRi:Hid (R↔cfOK s.cf/\(2<=s.pages/\s.pages<=4096)/\s.ht.n<=2000/\∀x∈s.ts,rightT x.t):=hid (by
  rw[<-hR];unfold rightS;have e:s.sc.ts.length=s.ht.n:=by rw[<-hs.t.len];simp[ScC.sc]
  rw[e];have e2:(∀t∈s.sc.ts,rightT t)↔∀x∈s.ts,rightT x.t:=by simp[ScC.sc]
  rw[e2];exact Iff.rfl)
 rw[hR];clear hR;obtain⟨sv,hsv⟩:=gen_of s.cells.toArray;obtain⟨pz,hpz⟩:=gen_of s.pages;obtain⟨n,hn⟩:=gen_of s.ht.n;rw[hpz,hn]at hRi;have HS:=hid hs;have HP:=hid hp;have kc:Hid (∀W,Blk W w.heap.size sv 30->W.cell? ⟨w.heap.size,7,none⟩=some (.int .i64 pz)/\W.cell? ⟨w.heap.size,8,none⟩=some (.slice s.ht.a n s.ht.c)):=hid fun W hb=>by rw[hb.cell,hb.cell,<-hsv,<-hpz,<-hn];exact⟨rfl,rfl⟩
 have hB:Blk (w.alloc (.cells sv 30)) w.heap.size sv 30:=Blk.new _ _ _;have hm:(w.alloc (.cells sv 30)).rangeAt w.heap.size 0 s.cf.cl:=hB.mid [] s.cf.cl [.int .i64 s.pages,.slice s.ht.a s.ht.n s.ht.c] (by rw[<-hsv];rfl);have b0:Hid (Below w.heap.size w (w.alloc (.cells sv 30))):=hid (bel_refl.alloc nat_le_rfl _);have CC:=hid (r24_Config s.cf (w.alloc (.cells sv 30)));have hmx:n<=9223372036854775807:=by have:=hs.t.le;have:=hs.t.max;unfold maxLen at this;omega
 rw[hsv];replace hsv:=hid hsv;replace hpz:=hid hpz;have hlen:Hid (s.ts.length=n):=hid (hs.t.len.trans hn);replace hn:=hid hn;have hBh:=hid hB;clear hs hp hB;go_enter func15,ntmps15;go_wp2_with (refine wLm 27 rfl rfl hm underlying27 ?_)
 refine CC.mono ?_;rintro e w1 ⟨b,rfl,hb,hb1⟩;have B1:=hid (b0.trans (hb1.mono b0.size));have X1:=hid (hBh.below hb1);obtain⟨k7,k8⟩:=kc _ X1.out;replace hb:=hid hb;clear hm CC hBh b0 hb1;cases b with
 |false=>
  go_wp2_with fail
  go_ret;exact Tells.no (fun h9=>by have:=hb.2 (hRi.1 h9).1;cases this) B1.out
 | true=>
  replace hRi:Hid (R↔(2<=pz/\pz<=4096)/\n<=2000/\∀x∈s.ts,rightT x.t):=hid (by rw[hRi.out];exact⟨fun h=>h.2,fun h=>⟨hb.1 rfl,h⟩⟩);clear hb;by_cases q1:pz<2
  ·have d1:decide (pz<2)=true:=decide_eq_true q1;go_wp2_with fail
   go_ret;exact Tells.no (fun h9=>by have:=hRi.1 h9;omega) B1.out
  have d1:decide (pz<2)=false:=decide_eq_false q1;by_cases q2:4096<pz
  ·have d2:decide (4096<pz)=true:=decide_eq_true q2;go_wp2_with fail
   go_ret;exact Tells.no (fun h9=>by have:=hRi.1 h9;omega) B1.out
  have d2:decide (4096<pz)=false:=decide_eq_false q2;by_cases q3:2000<n
  ·have d3:decide (2000<(n:Int))=true:=decide_eq_true (by omega);go_wp2_with fail
   go_ret;exact Tells.no (fun h9=>by have:=hRi.1 h9;omega) B1.out
  have d3:decide (2000<(n:Int))=false:=decide_eq_false (by omega);replace hRi:Hid (R↔∀x∈s.ts,rightT x.t):=hid (by rw[hRi.out];exact⟨fun h=>h.2.2,fun h=>⟨by omega,by omega,h⟩⟩);go_wp2_with fail
  clear k7 k8 d1 d2 d3 q1 q2;go_loopw [3] (fun i wr=>∃j:Nat,j<=n/\i=.int .i64 j/\Hid (Below w.heap.size w wr/\Blk wr w.heap.size sv 30)/\Hid (∀x∈s.ts.take j,rightT x.t)) (fun i _=>n-(intOf i).toNat)
  case atStart=>exact⟨0,Nat.zero_le _,by go_num,hid ⟨B1.out,X1.out⟩,hid (by simp)⟩
  case round=>
   obtain⟨j,hj,rfl,hW,hall⟩:=hrel;obtain⟨wx,hwx⟩:∃W,W=wr:=⟨_,rfl⟩;subst hwx;have k8:=(kc _ hW.out.2).2;by_cases hjm:j<n
   ·obtain⟨x,hx⟩:∃x,s.ts[j]?=some x:=⟨_,List.getElem?_eq_getElem (by rw[hlen];exact hjm)⟩;obtain⟨g,off,ha,hrg⟩:=HS.t.range hx;have hr1:=hrg wx hW.out.1;rw[ha]at k8;have CT:=hid (r28_turn x wx ((HS.each x (List.mem_of_getElem? hx)).below hW.out.1) (HP x (List.mem_of_getElem? hx)));obtain⟨xc,hxc⟩:=gen_of x.cells;rw[hxc]at CT hr1;have ixc:Hid ((prog.info? 55).map (·.size)=some xc.length):=hid (by rw[<-hxc];exact(by kernel_rfl:(prog.info? 55).map (·.size)=some 30));have hx:=hid hx;clear hrg hxc ha;go_wp2_with (refine wLm 55 rfl rfl hr1 underlying55 ?_ rfl rfl ixc.out);refine CT.mono ?_;rintro e w5 ⟨b,rfl,hb,hb5⟩;have W5:Hid (Below w.heap.size w w5/\Blk w5 w.heap.size sv 30):=hid ⟨hW.out.1.trans (hb5.mono hW.out.1.size),hW.out.2.below hb5⟩;replace hb:=hid hb;clear k8 hr1 hb5 CT;cases b with
    |false=>
     go_wp2_with fail
     go_ret;exact Tells.no (fun h9=>by have:=hb.2 (hRi.1 h9 x (List.mem_of_getElem? hx.out));cases this) W5.1
    | true=>
     have hT:=hid (hb.1 rfl);go_wp2_with fail
     refine⟨⟨j+1,by omega,by go_num,W5,hid fun u hu=>?_⟩,by simp[intOf];omega⟩;rw[List.take_add_one,hx.out]at hu;rcases List.mem_append.1 hu with hu | hu
     ·exact hall.out u hu
     simp at hu;subst hu;exact hT.out
   obtain rfl:j=n:=by omega
   have hfin:Hid (∀x∈s.ts,rightT x.t):=hid (by
    have h9:=hall.out
    rwa [List.take_of_length_le (by rw[hlen];exact Nat.le_refl _)]at h9)
   go_wp2_with fail
   go_ret;exact Tells.yes (hRi.2 hfin.out) hW.out.1
structure RawV (S:Sc)(B:Nat)(z:Int)(v:Value)(W:World):Prop where
 out:(z=0/\rightS S/\(rawS pkC S).length<=65536/\W.ownsRow B 5 1 v (rawS pkC S).length (bs (rawS pkC S)))\/(z=3/\rightS S/\¬(rawS pkC S).length<=65536/\v=.slice none 0 0)\/(z=2/\¬rightS S/\v=.slice none 0 0)
theorem RawA.say{S:Sc}{w w':World}{e:Ending}(h:RawA pkC S w e w'):Below w.heap.size w w'/\∃v z,e=.returned (.tuple #[v,.int .i64 z])/\RawV S w.heap.size z v w':=by
 refine⟨h.below,?_⟩;rcases h.out with⟨h1,h2,v,rfl,h3⟩ | ⟨h1,h2,rfl⟩ | ⟨h1,rfl⟩
 ·exact⟨v,0,rfl,⟨.inl ⟨rfl,h1,h2,h3⟩⟩⟩
 ·exact⟨_,3,rfl,⟨.inr (.inl ⟨rfl,h1,h2,rfl⟩)⟩⟩
 exact⟨_,2,rfl,⟨.inr (.inr ⟨rfl,h1,rfl⟩)⟩⟩
theorem RawV.one{S:Sc}{B B':Nat}{z z':Int}{v v':Value}{W W':World}(h:RawV S B z v W)(k:RawV S B' z' v' W'):z=z':=by rcases h.out with⟨h1,h2,h3, -⟩ | ⟨h1,h2,h3, -⟩ | ⟨h1,h2, -⟩<;>rcases k.out with⟨k1,k2,k3, -⟩ | ⟨k1,k2,k3, -⟩ | ⟨k1,k2, -⟩<;>first | exact h1.trans k1.symm | contradiction
theorem sc_Check(s:ScC)(w:World)(hs:s.In w)(hT:TzAt w)(hp:∀x∈s.ts,x.t.kind=2->PkS x.t.pk):Calls prog 14 #[.agg s.cells.toArray] w fun e w'=>∃z v B W,e=.returned (.int .i64 z)/\RawV s.sc B z v W/\Below w.heap.size w w':=by
 obtain⟨sv,hsv⟩:=gen_of s.cells.toArray;have is:(prog.info? 30).map (·.size)=some sv.size:=by rw[<-hsv];exact(by kernel_rfl:(prog.info? 30).map (·.size)=some 9)
 have b0:=(Below.refl w.heap.size w).alloc nat_le_rfl (.cells sv 30);have CR:=hid (sc_RawPk s (w.alloc (.cells sv 30)) (hs.below b0) (hT.below b0) hp);have hB:Blk (w.alloc (.cells sv 30)) w.heap.size sv 30:=Blk.new _ _ _;rw[hsv]at CR ⊢;replace b0:=hid b0;clear hs hT hp hsv;go_enter func14,ntmps14;go_wp2_with (refine wL 30 rfl rfl hB underlying30 ?_ rfl rfl is)
 refine CR.mono ?_;intro e w1 hP;obtain⟨hb1,v,z,rfl,hv⟩:=hP.say;have HV:=hid hv;have B1:=hid (b0.trans (hb1.mono b0.size));clear hP hb1 hv hB CR b0;go_wp2_with fail;go_ret;exact⟨z,v,_,_,rfl,HV.out,B1.out⟩
theorem walk_ScriptRaws'(s:ScC)(w:World)(hs:s.In w)(hT:TzAt w)(hp:∀x∈s.ts,PkS x.t.pk):Calls prog 6 #[.agg s.cells.toArray] w (YesP w):=by
 obtain⟨sv,hsv⟩:=gen_of s.cells.toArray;obtain⟨W0,hW0⟩:=gen_of (w.alloc (.cells sv 30));have hb0:Below w.heap.size w W0:=by rw[<-hW0];exact bel_refl.alloc nat_le_rfl _
 have hB:Blk W0 w.heap.size sv 30:=by rw[<-hW0];exact Blk.new _ _ _
 have is:(prog.info? 30).map (·.size)=some sv.size:=by rw[<-hsv];exact(by kernel_rfl:(prog.info? 30).map (·.size)=some 9)
 have HS:=hid hs;replace hT:=hid hT;rw[hsv];have F1:=hid (law28_few s 2100 W0 (hs.below hb0));rw[hsv]at F1;replace hsv:=hid hsv;have hp:=hid hp;have HB0:=hid hb0;have XB0:=hid hB;clear hs hb0;go_enter func6,ntmps6;go_wp2_with (refine wL 30 rfl rfl hB underlying30 ?_ rfl rfl is)
 refine F1.mono ?_;rintro e w1 ⟨b1,rfl,hb1⟩;have B1:=hid (HB0.trans (hb1.mono HB0.size));have x1:=XB0.below hb1;have X1:=hid x1;clear hb1 hB F1 HB0 XB0;cases b1 with
 |false=>clear x1;go_wp2_with (go_at_call 7;refine(known28 _ (hT.below B1.out)).mono ?_;rintro e wk ⟨rfl,hbk⟩);go_ret;exact⟨rfl,B1.trans (hbk.mono B1.size)⟩
 | true=>
  have CR1:=hid (sc_RawPk s w1 (HS.below B1.out) (hT.below B1.out) (fun x hx _=>hp.out x hx));rw[hsv.out]at CR1;go_wp2_with (refine wL 30 rfl rfl x1 underlying30 ?_ rfl rfl is)
  refine CR1.mono ?_;intro e w2 hP;obtain⟨hb2,v,z,rfl,hv⟩:=hP.say;have HV:=hid hv;have B2:=hid (B1.trans (hb2.mono B1.size));have x2:=X1.below hb2;have X2:=hid x2;have CC:=hid (sc_Check s w2 (HS.below B2.out) (hT.below B2.out) (fun x hx _=>hp.out x hx));rw[hsv.out]at CC;clear x1 X1 hb2 hP hv CR1;go_wp2_with (refine wL 30 rfl rfl x2 underlying30 ?_ rfl rfl is);refine CC.mono ?_;rintro e w3 ⟨z',v',B',W',rfl,hv',hb3⟩;obtain rfl:=HV.one hv';have B3:=hid (B2.trans (hb3.mono B2.size));have B23:=hid hb3;have x3:=X2.below hb3;have X3:=hid x3;have CT:=hid (r28_Right s w3 (HS.below B3.out) (fun x hx _=>hp.out x hx));rw[hsv.out]at CT;clear x2 X2 hb3 hv' CC;go_wp2_with (refine wL 30 rfl rfl x3 underlying30 ?_ rfl rfl is);refine CT.mono ?_;rintro e w4 ⟨rb,rfl,hrb,hb4⟩;have B4:=hid (B3.trans (hb4.mono B3.size));have B24:=hid (B23.trans (hb4.mono B23.size));have x4:=X3.below hb4;have X4:=hid x4;clear x3 X3 hb4 CT B23;rcases HV.out.out with⟨rfl,hr,hl,how⟩ | ⟨rfl,hr,hl,rfl⟩ | ⟨rfl,hr,rfl⟩
  ·obtain rfl:rb=true:=hrb.2 hr;have CW:=hid (r28_Raw s w4 (HS.below B4.out) hr);rw[hsv.out]at CW;have HO:=hid how;have hr:=hid hr;clear how hrb HV;obtain⟨l,hll⟩:=gen_of (rawS pkC s.sc);rw[hll]at HO hl CW;obtain⟨n,hn⟩:=gen_of l.length;rw[hn]at HO hl;obtain⟨a1,c1,rfl,hr1⟩:=RowAt.of_own HO.out;have R1:=hid hr1;have hll:=hid hll;clear hr1 HO;go_wp2_with (refine wL 30 rfl rfl x4 underlying30 ?_ rfl rfl is);refine CW.mono ?_;rintro e w5 ⟨hb5,v5,rfl,how5⟩;rw[hn]at how5;obtain⟨a2,c2,rfl,hr2⟩:=RowAt.of_own how5;have hn:=hid hn;have B5:=hid (B4.trans (hb5.mono B4.size));have R15:=hid (R1.below (B24.trans (hb5.mono B24.size)));have R2:=hid hr2;have X5:=hid (X4.below hb5);have dn:decide (65536<(n:Int))=false:=decide_eq_false (by omega);have CP:=hid (sc_ParsePk a1 n c1 l w5 R15.out (by omega) (hT.below B5.out));clear hb5 how5 hr2 x4 X4 CW R1 B24;go_wp2_with fail;refine CP.mono ?_;rintro e w6 ⟨hb6,hout6⟩;obtain⟨o,ho1,rfl,ho3⟩:∃o:ScC,o.sc=s.sc/\e=.returned (.tuple #[.agg o.cells.toArray,.int .i64 0])/\o.In w6:=by
    have g1:rScript pkC false l=some s.sc:=by rw[<-hll.out];exact rScript_B pkC hr.out
    rcases hout6 with⟨h1, -⟩ | ⟨-,h2, -⟩ | ⟨-,o,h3,h4,h5,h6⟩
    ·rw[hn.out]at h1;omega
    ·exact absurd hr.out (h2 s.sc g1)
    refine⟨o,?_,h5,h6⟩;rw[g1]at h3;exact(Option.some.inj h3).symm
   have ho1:=hid ho1;have ho3:=hid ho3;have B6:=hid (B5.trans (hb6.mono B5.size));have X6:=hid (X5.below hb6);have R16:=hid (R15.below hb6);have R26:=hid (R2.below hb6);obtain⟨ov,hov⟩:=gen_of o.cells.toArray;rw[hov];have iov:Hid ((prog.info? 30).map (·.size)=some ov.size):=hid (by rw[<-hov];exact(by kernel_rfl:(prog.info? 30).map (·.size)=some 9));have hz9:Hid (ov.size=9):=hid (by rw[<-hov];rfl);have hone:Hid (∀v∈ov.toList,v.oneCell'=true):=hid (by rw[<-hov];simp[ScC.cells,Value.oneCell']);replace hov:=hid hov;have is:=hid is;have BN:=Blk.new w6 zSc.cells.toArray 30;clear hout6 hb6 CP X5 R15 R2;go_upto_region 11 with(refine wS 30 9 rfl w6.heap.size _ ov rfl rfl BN hz9.out rfl hone.out ?_;intro w7 hw7 hr7);have b67:Below w6.heap.size w6 w7:=(bel_refl.alloc nat_le_rfl _).trans (hr7.below (by simp) (by simp));have B7:=hid (B6.trans (b67.mono B6.size));have x7:=X6.below b67;have X7:=hid x7;have O7:=hid hw7;have HO7:=hid (ho3.below b67);have q1:=run_str (R16.below b67);have q2:=run_str (R26.below b67);have CS:=hid (r28_Same o s w7 HO7.out (HS.below B7.out));rw[hov.out,hsv.out]at CS;obtain⟨lb,hlb⟩:=gen_of ((⟨l.toArray⟩:ByteArray):ByteArray);rw[hlb]at q1 q2;clear BN b67 hr7 X6 R16 R26 hlb ho3;go_wp2_with (first
    | (refine wLG 30 rfl rfl hw7 underlying30 rfl ?_ iov.out)
    | (refine wLG 30 rfl rfl x7 underlying30 rfl ?_ is.out))
   refine CS.mono ?_;rintro e w8 ⟨sb,rfl,hsb,hb8⟩;obtain rfl:sb=true:=hsb.2 ho1.out;have B8:=hid (B7.trans (hb8.mono B7.size));have x8:=X7.below hb8;have o8:=O7.below hb8;have C2:=hid (sc_Same o s w8 (HO7.below hb8) (HS.below B8.out));rw[hov.out,hsv.out]at C2;clear hsb hb8 hw7 x7 CS q1 q2;go_wp2_with (first
    | (refine wLG 30 rfl rfl o8 underlying30 rfl ?_ iov.out)
    | (refine wLG 30 rfl rfl x8 underlying30 rfl ?_ is.out))
   refine C2.mono ?_;rintro e w9 ⟨sb,rfl,hsb,hb9⟩;obtain rfl:sb=true:=hsb.2 ho1.out;have B9:=hid (B8.trans (hb9.mono B8.size));clear hsb hb9 x8 o8 C2;go_wp2_with (go_at_call 7;refine(known28 _ (hT.below B9.out)).mono ?_;rintro e wk ⟨rfl,hbk⟩);go_ret;exact⟨rfl,B9.trans (hbk.mono B9.size)⟩
  ·obtain rfl:rb=true:=hrb.2 hr;have CW:=hid (r28_Raw s w4 (HS.below B4.out) hr);rw[hsv.out]at CW;have hr:=hid hr;clear hrb HV;go_wp2_with (refine wL 30 rfl rfl x4 underlying30 ?_ rfl rfl is);refine CW.mono ?_;rintro e w5 ⟨hb5,v5,rfl,how5⟩;obtain⟨n,hn⟩:=gen_of ((rawS pkC s.sc).length);rw[hn]at how5 hl;obtain⟨a2,c2,rfl⟩:=own_slice how5;have B5:=hid (B4.trans (hb5.mono B4.size));have dn:decide (65536<(n:Int))=true:=decide_eq_true (by omega);clear hb5 how5 x4 X4 CW hn hl;go_wp2_with (go_at_call 7;refine(known28 _ (hT.below B5.out)).mono ?_;rintro e wk ⟨rfl,hbk⟩);go_ret;exact⟨rfl,B5.trans (hbk.mono B5.size)⟩
  obtain rfl:rb=false:=by
   cases rb with
   | false=>rfl
   | true=>exact absurd (hrb.1 rfl) hr
  have hr:=hid hr;clear hrb HV x4;go_wp2_with (go_at_call 7;refine(known28 _ (hT.below B4.out)).mono ?_;rintro e wk ⟨rfl,hbk⟩);go_ret;exact⟨rfl,B4.trans (hbk.mono B4.size)⟩
theorem walk_ScriptRaws(s:ScC)(w:World)(hs:s.In w)(hT:TzAt w)(hp:∀x∈s.ts,PkS x.t.pk):Calls prog 6 #[.agg s.cells.toArray] w fun e w'=>e=.returned (.bool true)/\Below w.heap.size w w':=
 (walk_ScriptRaws' s w hs hT hp).mono fun e w' h=>h.out
end
end Go.Proofs.YtkghejaimhoboaaGreatDoor
