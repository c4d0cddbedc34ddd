/- Parts of the proof of ScriptTurns. -/
import Derived.Test.YtkghejaimhoboaaGreatDoorPk36
set_option linter.unusedSimpArgs false
set_option linter.unusedVariables false
set_option maxRecDepth 100000
set_option maxHeartbeats 8000000
namespace Go.Proofs.YtkghejaimhoboaaGreatDoor
open Go.RowKit Go.Shelf Go.Proofs.Tryz
section
attribute [local go_sem] Oper.semAt_some
theorem Bx(p:Pk)(h:H3)(w:World)(hk:p.kind=12)(hr:aZ p):Calls prog 87 #[.agg (p.cells h).toArray] w (mv (bj p) w):=by
 have e0:bj p=[]:=kB (by omega) (by omega) (by omega) (by omega) (by omega) (by omega) (by omega);rw[e0];obtain⟨pc,bt⟩:=ae ((p.cells h).toArray);have kc:Hid (∀W,ar W w.heap.size pc 52->∀i,W.cell? ⟨w.heap.size,i,none⟩=(p.cells h)[i]?):=af fun W hb i=>by rw[hb.cell,<-bt];simp
 have S0:Hid (fN w pc [] (.slice none 0 0) (w.alloc (.cells pc 52))):=af (fN.start ai);rw[bt];replace bt:=af bt;have k0:(w.alloc (.cells pc 52)).cell? ⟨w.heap.size,0,none⟩=some (.int .i64 12):=by rw[<-hk];exact kc _ S0.pk 0
 go_enter func87,ntmps87;go_wp2_with fail
 go_ret;exact⟨S0.ag,_,rfl,World.ownsRow_nil _ _ _ _⟩
theorem Bz(p:Pk)(h:H3)(w:World)(hk:p.kind=13)(hr:aZ p):Calls prog 87 #[.agg (p.cells h).toArray] w (mv (bj p) w):=by
 have e0:bj p=[]:=kB (by omega) (by omega) (by omega) (by omega) (by omega) (by omega) (by omega);rw[e0];obtain⟨pc,bt⟩:=ae ((p.cells h).toArray);have kc:Hid (∀W,ar W w.heap.size pc 52->∀i,W.cell? ⟨w.heap.size,i,none⟩=(p.cells h)[i]?):=af fun W hb i=>by rw[hb.cell,<-bt];simp
 have S0:Hid (fN w pc [] (.slice none 0 0) (w.alloc (.cells pc 52))):=af (fN.start ai);rw[bt];replace bt:=af bt;have k0:(w.alloc (.cells pc 52)).cell? ⟨w.heap.size,0,none⟩=some (.int .i64 13):=by rw[<-hk];exact kc _ S0.pk 0
 go_enter func87,ntmps87;go_wp2_with fail
 go_ret;exact⟨S0.ag,_,rfl,World.ownsRow_nil _ _ _ _⟩
theorem BG(p:Pk)(h:H3)(w:World)(hk:p.kind=14)(hr:aZ p):Calls prog 87 #[.agg (p.cells h).toArray] w (mv (bj p) w):=by
 have e0:bj p=[]:=kB (by omega) (by omega) (by omega) (by omega) (by omega) (by omega) (by omega);rw[e0];obtain⟨pc,bt⟩:=ae ((p.cells h).toArray);have kc:Hid (∀W,ar W w.heap.size pc 52->∀i,W.cell? ⟨w.heap.size,i,none⟩=(p.cells h)[i]?):=af fun W hb i=>by rw[hb.cell,<-bt];simp
 have S0:Hid (fN w pc [] (.slice none 0 0) (w.alloc (.cells pc 52))):=af (fN.start ai);rw[bt];replace bt:=af bt;have k0:(w.alloc (.cells pc 52)).cell? ⟨w.heap.size,0,none⟩=some (.int .i64 14):=by rw[<-hk];exact kc _ S0.pk 0
 go_enter func87,ntmps87;go_wp2_with fail
 go_ret;exact⟨S0.ag,_,rfl,World.ownsRow_nil _ _ _ _⟩
theorem Ey(p:Pk)(h:H3)(w:World)(hk:p.kind=2)(hr:aZ p):Calls prog 87 #[.agg (p.cells h).toArray] w (mv (bj p) w):=by
 have hm:=hr.1;rw[show bV p=uY p from by unfold bV;rw[if_neg (by omega),if_pos hk]]at hm;have hcd:0<=p.code/\p.code<=5:=by unfold uY at hm;rw[Bool.and_eq_true]at hm;exact within_iff.1 hm.1
 obtain⟨cn,zr⟩:=Int.eq_ofNat_of_zero_le hcd.1;have hc5:cn<=5:=by omega
 obtain⟨pr,ML⟩:=ae p.present;have e0:Hid (bj p=[UInt8.ofNat (aY pr 1),UInt8.ofNat cn]):=af (by
  rw[qx hk,ML,zr];have h1:aY pr 1<256:=by cases pr<;>decide
  rw[ni _ h1,ni _ (by omega)];rfl)
 rw[e0];have QN:IntKind.u8.wrap (cn:Int)=(cn:Int):=wrap_u8 cn (by omega);obtain⟨pc,bt⟩:=ae ((p.cells h).toArray);have kc:Hid (∀W,ar W w.heap.size pc 52->∀i,W.cell? ⟨w.heap.size,i,none⟩=(p.cells h)[i]?):=af fun W hb i=>by rw[hb.cell,<-bt];simp
 have S0:Hid (fN w pc [] (.slice none 0 0) (w.alloc (.cells pc 52))):=af (fN.start ai);rw[bt];replace bt:=af bt;have k0:(w.alloc (.cells pc 52)).cell? ⟨w.heap.size,0,none⟩=some (.int .i64 2):=by rw[<-hk];exact kc _ S0.pk 0
 have kq:Hid (∀W,ar W w.heap.size pc 52->W.cell? ⟨w.heap.size,19,none⟩=some (.bool pr)/\W.cell? ⟨w.heap.size,20,none⟩=some (.int .i64 (cn:Int))):=af fun W hb=>⟨by rw[<-ML];exact kc _ hb 19,by rw[<-zr];exact kc _ hb 20⟩;clear zr ML hcd hm hr;go_enter func87,ntmps87;go_upto_region 15 with fail
 try simp only[PT]
 have SD:=S0.step ai.drew;refine aH [(1000,fun w'=>ar w' w.heap.size pc 52)] (by kernel_rfl) ⟨SD.pk,trivial⟩ fun KQ aL=>?_;try simp only[PT]
 obtain⟨WD,di⟩:=ae ((w.alloc (.cells pc 52)).drew);rw[di]at SD ⊢;refine tQ [0] ?_;refine aG 1 rfl (by kernel_rfl) (by kernel_rfl) rfl rfl 0 rfl (by kernel_rfl) (.bool pr) (fun w' hf=>by(have k0:=(kq _ hf).1;go_simp<;>with_reducible rfl)) ?_;simp only[PT];refine tQ [4] ?_;refine aG 5 rfl (by kernel_rfl) (by kernel_rfl) rfl rfl 0 rfl (by kernel_rfl) (.int .i64 (cn:Int)) (fun w' hf=>by(have k0:=(kq _ hf).2;go_simp<;>with_reducible rfl)) ?_;simp only[PT];refine tQ [6] ?_;refine sQ 2 fun K hK=>?_;simp only[GO];go_simp;refine(FZ pr 1 WD).mono ?_;rintro e w1 ⟨rfl,rfl⟩;refine hK _ _ ⟨⟨fun _=>SD.pk,trivial⟩,?_⟩;clear hK K;try simp only[PT]
 have mm:=LJ ((aY pr 1:Nat):Int) (cn:Int) WD;have S9:=af (SD.step (ai.alloc ah (.cells #[.int .u8 ((aY pr 1:Nat):Int),.int .u8 (cn:Int)] 5)));have pj:Hid (bs [UInt8.ofNat (aY pr 1),UInt8.ofNat cn]=[.int .u8 ((aY pr 1:Nat):Int),.int .u8 (cn:Int)]):=af (by unfold bs;simp only[List.map_cons,List.map_nil];rw[gv cn (by omega),gv _ (by cases pr<;>decide)])
 cases pr<;>
 ·refine tQ [3] ?_;refine sQ 7 fun K hK=>?_;simp only[GO];go_simp;refine hK _ _ ⟨⟨fun _=>S9.pk,trivial⟩,?_⟩;clear hK K;try simp only[PT]
  refine tQ [8] ?_;refine dQ (aL.out _ _ ?_);clear aL KQ;go_wp2_with fail;go_ret;refine⟨S9.ag,_,rfl,?_⟩;rw[pj];exact aT mm (by have:=SD.size;omega)
theorem Ez(p:Pk)(h:H3)(w:World)(hk:p.kind=3)(hr:aZ p):Calls prog 87 #[.agg (p.cells h).toArray] w (mv (bj p) w):=by
 have hlen:=eU hr;have hm:=hr.1;rw[show bV p=fy p from by unfold bV;rw[if_neg (by omega),if_neg (by omega),if_pos hk]]at hm;unfold fy at hm;rw[Bool.and_eq_true,Bool.and_eq_true,Bool.and_eq_true]at hm;have hq:=within_iff.1 hm.1.2;have sB:=ez hm.1.1.1;have Yr:0<=p.id/\p.id<=65535:=by
  have h9:=hm.2;rw[Bool.or_eq_true]at h9;rcases h9 with h9 | h9
  ·rw[Bool.and_eq_true,Bool.and_eq_true]at h9;have:=of_decide_eq_true h9.1.2;omega
  rw[Bool.and_eq_true]at h9;have:=within_iff.1 h9.2;omega
 obtain⟨qn,Gp⟩:=Int.eq_ofNat_of_zero_le hq.1;obtain⟨xd,vL⟩:=Int.eq_ofNat_of_zero_le Yr.1;have Uf:xd<=65535:=by omega
 have e0:bj p=aI p.topic++((if 0<qn then ay 2 xd else[])++p.body):=by
  rw[tI hk,Gp,vL];congr 2;by_cases h9:0<qn
  ·rw[if_pos (by omega),if_pos h9];rfl
  rw[if_neg (by omega),if_neg h9]
 rw[e0]at hlen ⊢;obtain⟨pc,bt⟩:=ae ((p.cells h).toArray);have kc:Hid (∀W,ar W w.heap.size pc 52->∀i,W.cell? ⟨w.heap.size,i,none⟩=(p.cells h)[i]?):=af fun W hb i=>by rw[hb.cell,<-bt];simp
 have S0:Hid (fN w pc [] (.slice none 0 0) (w.alloc (.cells pc 52))):=af (fN.start ai);rw[bt];replace bt:=af bt;have k0:(w.alloc (.cells pc 52)).cell? ⟨w.heap.size,0,none⟩=some (.int .i64 3):=by rw[<-hk];exact kc _ S0.pk 0
 have k4:(w.alloc (.cells pc 52)).cell? ⟨w.heap.size,4,none⟩=some (.string ⟨p.topic.toArray⟩):=kc _ S0.pk 4;have kq:Hid (∀W,ar W w.heap.size pc 52->W.cell? ⟨w.heap.size,3,none⟩=some (.int .i64 (qn:Int))/\W.cell? ⟨w.heap.size,6,none⟩=some (.int .i64 (xd:Int))):=af fun W hb=>⟨by rw[<-Gp];exact kc _ hb 3,by rw[<-vL];exact kc _ hb 6⟩;have CT:=af (fT p.topic (w.alloc (.cells pc 52)) (by omega));obtain⟨sb,eD⟩:=ae ((⟨p.body.toArray⟩:ByteArray):ByteArray);have hsz:sb.size=p.body.length:=by rw[<-eD];simp[ByteArray.size]
 have hsc:Hid (Go.Lib.strCells sb=bs p.body):=af (by rw[<-eD];exact ky _);have kb:Hid (∀W,ar W w.heap.size pc 52->W.cell? ⟨w.heap.size,5,none⟩=some (.string sb)):=af fun W hb=>by rw[<-eD];exact kc _ hb 5
 have htt:(aI p.topic).length<=300:=by rw[cG];omega
 have Ni:p.body.length<=5000:=by simp only[List.length_append]at hlen;omega
 obtain⟨T0,rh⟩:=ae (aI p.topic);rw[rh]at CT hlen htt ⊢;obtain⟨Q0,Ys⟩:=ae (if 0<qn then ay 2 xd else[]);rw[Ys,<-List.append_assoc]at hlen ⊢;have Ys:=af Ys;obtain⟨L,hL⟩:=ae (T0++Q0);rw[hL]at hlen ⊢;have hL:=af hL;clear eD Gp vL Yr hq hm sB hr e0 rh;obtain⟨i0,hi,hz0,hz1,hz2⟩:=info_parts Tryz.zF;go_enter func87,ntmps87;go_wp2_with fail
 refine CT.mono ?_;rintro e w1 ⟨v1,rfl,ke,hb1⟩;obtain⟨a1,c1,rfl⟩:=aA ke;have S1:Hid (fN w pc T0 (.slice a1 T0.length c1) w1):=af ⟨S0.low.trans (hb1.mono (by simp)),aT ke (by simp)⟩;have k3:=(kq _ S1.pk).1;have k6:=(kq _ S1.pk).2;clear ke hb1 k0 k4 S0;obtain⟨TT,rZ⟩:=ae T0.length;rw[rZ]at S1 htt ⊢;have rZ:=af rZ;go_upto_if 96 with fail;try simp only[PT]
 go_cut [3]from 96 (fun s3 wx=>Hid (fN w pc L s3 wx))
 case first=>
  by_cases hq:0<qn
  ·have d:decide (0<(qn:Int))=true:=decide_eq_true (by omega);have CW:=af (tS xd w1 Uf);go_wp2_with fail
   refine CW.mono ?_;rintro e w2 ⟨v2,rfl,tG,hb2⟩;obtain⟨a2,c2,rfl⟩:=aA tG;have S2:=af (S1.step hb2);have iP:=S2.own;rw[rZ.out]at iP;have Ei:=S2.size;clear hb2 k3 k6;go_wp2_with (at_builtin;refine wpList_plain rfl fun _ hK=>aR _ _ rfl Tryz.vF (by decide) (w.heap.size+1) _ TT _ rfl iP w1.heap.size _ 2 _ rfl tG (eX _) (by omega) (by omega) Ei fun v3 w3 qJ hg3 Vc=>hK _ _ ?_);have S3:Hid (fN w pc L v3 w3):=af (by rw[<-hL.out,<-Ys.out,if_pos hq];exact S2.app (by rw[rZ.out,aO];exact qJ) hg3)
   go_meet
   case rel=>exact S3
  have d:decide (0<(qn:Int))=false:=decide_eq_false (by omega);have S3:Hid (fN w pc L (.slice a1 TT c1) w1):=af (by rw[<-hL.out,<-Ys.out,if_neg hq,List.append_nil];exact S1.out)
  go_wp2_with fail
  go_meet
  case rel=>exact S3
 case rest=>have HS:=hcut;obtain⟨wa,sM⟩:=ae wc;rw[sM]at HS ⊢;clear sM k3 k6 S1 hcut;have k5:=kb _ HS.out.pk;rw[List.length_append]at hlen;obtain⟨LL,oQ⟩:=ae L.length;have iP:=HS.out.own;rw[oQ]at iP hlen;obtain⟨av,cv,oX⟩:=aA iP;rw[oX]at iP HS ⊢;have Ei:=HS.out.size;have oQ:=af oQ;have hbl:p.body.length<=5000:=Ni;obtain⟨BB,hBB⟩:=ae p.body.length;rw[hBB]at hsz hlen hbl;have hBB:=af hBB;clear oX Ni;go_wp2_with (at_builtin;refine Go.Lib.wpList_append_own_string _ rfl _ _ 22 9 rfl _ 5 i0 underlying22 underlying9 hi hz0 hz1 hz2 _ _ _ rfl iP sb rfl (by unfold maxLen;omega) (by omega) Ei ?_;intro v9 w9 JC Cg _);have S9:Hid (fN w pc (L++p.body) v9 w9):=af (HS.out.app (by rw[oQ.out,hBB.out,<-hsc,<-hsz];exact JC) Cg);clear JC Cg;go_ret;exact⟨S9.ag,_,rfl,aT (base':=w.heap.size) S9.own (by omega)⟩
theorem fV(b:Bool)(n:Nat)(w:World):Calls prog 86 #[.bool b,.int .i64 (n:Int)] w fun e w'=>e=.returned (.int .i64 ((aY b n:Nat):Int))/\w=w':=by refine(FZ b (n:Int) w).mono ?_;rintro e w' ⟨rfl,rfl⟩;cases b<;>exact⟨rfl,rfl⟩
theorem iQ(b:Bool)(n:Nat):aY b n<=n:=by cases b<;>simp[aY]
theorem EE(p:Pk)(h:H3)(w:World)(hk:p.kind=1)(hr:aZ p):Calls prog 87 #[.agg (p.cells h).toArray] w (mv (bj p) w):=by
 have hlen:=eU hr;have hm:=hr.1;rw[show bV p=oo p from by unfold bV;rw[if_pos hk]]at hm;obtain⟨a1,a2,a3,a4,a5⟩:=iG hm;have hq:0<=p.will.qos/\p.will.qos<=2:=by
  rcases a3 with⟨-,e⟩ | ⟨-, -, -,e⟩
  ·rw[e];exact⟨by decide,by decide⟩
  exact e
 have zr:dT p<256:=(qu p.hasUser p.hasPass p.will.retain p.hasWill p.clean p.will.qos.toNat (by omega)).2.2.2.2.2.2;obtain⟨qn,Gp⟩:=Int.eq_ofNat_of_zero_le hq.1;obtain⟨kn,zH⟩:=Int.eq_ofNat_of_zero_le a2.1;have RH:qn<=2:=by omega
 have UX:kn<=65535:=by omega
 have jy:p.client.length<=65535:=by have:=dU a1;omega
 have t1:p.will.topic.length<=65535:=by
  rcases a3 with⟨-,e⟩ | ⟨-,e, -⟩
  ·rw[e];decide
  have:=ez e;omega
 have t2:p.will.body.length<=65535:=by
  rcases a3 with⟨-,e⟩ | ⟨-, -,e, -⟩
  ·rw[e];decide
  omega
 have t3:p.user.length<=65535:=by
  rcases a4 with⟨-,e⟩ | ⟨-,e⟩
  ·have:=dU e;omega
  rw[e];decide
 have t4:p.pass.length<=65535:=by
  rcases a5 with⟨-,e⟩ | ⟨-,e⟩
  ·omega
  rw[e];decide
 obtain⟨hu,Q3⟩:=ae p.hasUser;obtain⟨hp,JF⟩:=ae p.hasPass;obtain⟨hw,hhw⟩:=ae p.hasWill;obtain⟨rt,hrt⟩:=ae p.will.retain;obtain⟨cl,MQ⟩:=ae p.clean;have acR:dT p=aY hu 128+aY hp 64+aY rt 32+8*qn+aY hw 4+aY cl 2:=by unfold dT;rw[Q3,JF,hhw,hrt,MQ,Gp];simp only[Int.toNat_natCast];omega
 obtain⟨cn,Yw⟩:=ae (dT p);have uf:bj p=aI gS++[4,UInt8.ofNat cn]++ay 2 kn++aI p.client++(if hw then aI p.will.topic++aI p.will.body else[])++(if hu then aI p.user else[])++(if hp then aI p.pass else[]):=by unfold bj;rw[if_pos hk,Yw,ni 4 (by decide),ni cn (by omega),zH,hhw,Q3,JF];simp[List.append_assoc]
 obtain⟨WI,Vp⟩:=ae (if hw then aI p.will.topic++aI p.will.body else[]);obtain⟨UI,Vq⟩:=ae (if hu then aI p.user else[]);obtain⟨PI,Vr⟩:=ae (if hp then aI p.pass else[]);rw[Vp,Vq,Vr]at uf;rw[uf]at hlen ⊢;simp only[List.length_append,List.length_cons,List.length_nil]at hlen;obtain⟨pc,bt⟩:=ae ((p.cells h).toArray);have kc:Hid (∀W,ar W w.heap.size pc 52->∀i,W.cell? ⟨w.heap.size,i,none⟩=(p.cells h)[i]?):=af fun W hb i=>by rw[hb.cell,<-bt];simp
 have S0:Hid (fN w pc [] (.slice none 0 0) (w.alloc (.cells pc 52))):=af (fN.start ai);rw[bt];replace bt:=af bt;have k0:(w.alloc (.cells pc 52)).cell? ⟨w.heap.size,0,none⟩=some (.int .i64 1):=by rw[<-hk];exact kc _ S0.pk 0
 have kq:Hid (∀W,ar W w.heap.size pc 52->W.cell? ⟨w.heap.size,15,none⟩=some (.bool hu)/\W.cell? ⟨w.heap.size,16,none⟩=some (.bool hp)/\W.cell? ⟨w.heap.size,14,none⟩=some (.bool rt)/\W.cell? ⟨w.heap.size,13,none⟩=some (.int .i64 (qn:Int))/\W.cell? ⟨w.heap.size,10,none⟩=some (.bool hw)/\W.cell? ⟨w.heap.size,8,none⟩=some (.bool cl)/\W.cell? ⟨w.heap.size,9,none⟩=some (.int .i64 (kn:Int))):=af fun W hb=>⟨by rw[<-Q3];exact kc _ hb 15,by rw[<-JF];exact kc _ hb 16,by rw[<-hrt];exact kc _ hb 14,by rw[<-Gp];exact kc _ hb 13,by rw[<-hhw];exact kc _ hb 10,by rw[<-MQ];exact kc _ hb 8,by rw[<-zH];exact kc _ hb 9⟩;have hlen:=af hlen;have Vp:=af Vp;have Vq:=af Vq;have Vr:=af Vr;obtain⟨z1,hz1⟩:=ae (((aY hu 128:Nat):Int):Int);obtain⟨z2,hz2⟩:=ae (((aY hp 64:Nat):Int):Int);obtain⟨z3,hz3⟩:=ae (((aY rt 32:Nat):Int):Int);obtain⟨z4,Tv⟩:=ae (((aY hw 4:Nat):Int):Int);obtain⟨z5,FC⟩:=ae (((aY cl 2:Nat):Int):Int);obtain⟨zq,Ur⟩:=ae ((qn:Int):Int);have y1:0<=z1/\z1<=128:=by have:=iQ hu 128;omega
 have y2:0<=z2/\z2<=64:=by have:=iQ hp 64;omega
 have y3:0<=z3/\z3<=32:=by have:=iQ rt 32;omega
 have y4:0<=z4/\z4<=4:=by have:=iQ hw 4;omega
 have y5:0<=z5/\z5<=2:=by have:=iQ cl 2;omega
 have yq:0<=zq/\zq<=2:=by omega
 have Us:z1+z2+z3+8*zq+z4+z5=(cn:Int):=by omega
 have Yx:cn<256:=by omega
 rw[Ur]at kq;clear Q3 JF hhw hrt MQ acR Yw uf a1 a2 a3 a4 a5 hm hr hq Gp zH zr;have C1:=af (fun W=>fV hu 128 W);have C2:=af (fun W=>fV hp 64 W);have C3:=af (fun W=>fV rt 32 W);have C4:=af (fun W=>fV hw 4 W);have C5:=af (fun W=>fV cl 2 W);rw[hz1]at C1;rw[hz2]at C2;rw[hz3]at C3;rw[Tv]at C4;rw[FC]at C5;clear hz1 hz2 hz3 Tv FC Ur;obtain⟨D3,y11⟩:=y1;obtain⟨y20,y21⟩:=y2;obtain⟨y30,y31⟩:=y3;obtain⟨y40,y41⟩:=y4;obtain⟨y50,y51⟩:=y5;obtain⟨yq0,yq1⟩:=yq;go_enter func87,ntmps87;go_upto_region 4 with fail
 try simp only[PT]
 have SD:=S0.step ai.drew;refine aH [(1000,fun w'=>ar w' w.heap.size pc 52)] (by kernel_rfl) ⟨SD.pk,trivial⟩ fun KQ aL=>?_;try simp only[PT]
 obtain⟨WD,di⟩:=ae ((w.alloc (.cells pc 52)).drew);rw[di]at SD ⊢;refine tQ [0] ?_;refine aG 1 rfl (by kernel_rfl) (by kernel_rfl) rfl rfl 0 rfl (by kernel_rfl) (.bool hu) (fun w' hf=>by(have k0:=(kq _ hf).1;go_simp<;>with_reducible rfl)) ?_;simp only[PT];refine tQ [3] ?_;refine aG 4 rfl (by kernel_rfl) (by kernel_rfl) rfl rfl 0 rfl (by kernel_rfl) (.bool hp) (fun w' hf=>by(have k0:=(kq _ hf).2.1;go_simp<;>with_reducible rfl)) ?_;simp only[PT];refine tQ [7,8] ?_;refine aG 9 rfl (by kernel_rfl) (by kernel_rfl) rfl rfl 0 rfl (by kernel_rfl) (.bool rt) (fun w' hf=>by(have k0:=(kq _ hf).2.2.1;go_simp<;>with_reducible rfl)) ?_;simp only[PT];refine tQ [12,13] ?_;refine aG 14 rfl (by kernel_rfl) (by kernel_rfl) rfl rfl 0 rfl (by kernel_rfl) (.int .i64 zq) (fun w' hf=>by(have k0:=(kq _ hf).2.2.2.1;go_simp<;>with_reducible rfl)) ?_;simp only[PT];refine tQ [15,17] ?_;refine aG 18 rfl (by kernel_rfl) (by kernel_rfl) rfl rfl 0 rfl (by kernel_rfl) (.bool hw) (fun w' hf=>by(have k0:=(kq _ hf).2.2.2.2.1;go_simp<;>with_reducible rfl)) ?_;simp only[PT];refine tQ [21] ?_;refine aG 22 rfl (by kernel_rfl) (by kernel_rfl) rfl rfl 0 rfl (by kernel_rfl) (.bool cl) (fun w' hf=>by(have k0:=(kq _ hf).2.2.2.2.2.1;go_simp<;>with_reducible rfl)) ?_;simp only[PT];refine sQ 2 fun K hK=>?_;simp only[GO];go_simp;refine(C1 WD).mono ?_;rintro e w1 ⟨rfl,rfl⟩;refine hK _ _ ⟨⟨fun _=>SD.pk,trivial⟩,?_⟩;clear hK K;try simp only[PT]
 refine sQ 5 fun K hK=>?_;simp only[GO];go_simp;refine(C2 WD).mono ?_;rintro e w1 ⟨rfl,rfl⟩;refine hK _ _ ⟨⟨fun _=>SD.pk,trivial⟩,?_⟩;clear hK K;try simp only[PT]
 refine tQ [6] ?_;refine sQ 10 fun K hK=>?_;simp only[GO];go_simp;refine(C3 WD).mono ?_;rintro e w1 ⟨rfl,rfl⟩;refine hK _ _ ⟨⟨fun _=>SD.pk,trivial⟩,?_⟩;clear hK K;try simp only[PT]
 refine tQ [11,16] ?_;refine sQ 19 fun K hK=>?_;simp only[GO];go_simp;refine(C4 WD).mono ?_;rintro e w1 ⟨rfl,rfl⟩;refine hK _ _ ⟨⟨fun _=>SD.pk,trivial⟩,?_⟩;clear hK K;try simp only[PT]
 refine tQ [20] ?_;refine sQ 23 fun K hK=>?_;simp only[GO];go_simp;refine(C5 WD).mono ?_;rintro e w1 ⟨rfl,rfl⟩;refine hK _ _ ⟨⟨fun _=>SD.pk,trivial⟩,?_⟩;clear hK K;try simp only[PT]
 refine tQ [24,25] ?_;refine dQ (aL.out _ _ ?_);clear aL KQ;have SDh:=af SD;clear C1 C2 C3 C4 C5 SD S0 di k0;have hwc:IntKind.u8.wrap (cn:Int)=(cn:Int):=wrap_u8 cn Yx;go_upto_region 5 with fail
 try simp only[PT]
 have tx:(aI gS).length=6:=by decide
 have Rf:Hid (10+(aI p.client).length+WI.length+UI.length+PI.length<=5000):=af (by have h9:=hlen.out;rw[aO,tx]at h9;omega);clear hlen;go_cut [3]from 37 (fun s3 wx=>Hid (fN w pc (aI gS++[4,UInt8.ofNat cn]++ay 2 kn) s3 wx))
 case first=>
  have SE:=SDh.step ai.drew;refine aH [(1000,fun w'=>ar w' w.heap.size pc 52)] (by kernel_rfl) ⟨SE.pk,trivial⟩ fun KQ aL=>?_;try simp only[PT]
  obtain⟨WE,Ug⟩:=ae WD.drew;rw[Ug]at SE ⊢;clear Ug SDh;refine tQ [1,2,5] ?_;refine aG 6 rfl (by kernel_rfl) (by kernel_rfl) rfl rfl 0 rfl (by kernel_rfl) (.int .i64 (kn:Int)) (fun w' hf=>by(have k0:=(kq _ hf).2.2.2.2.2.2;go_simp<;>with_reducible rfl)) ?_;simp only[PT];have hmq:(⟨#[77,81,84,84]⟩:ByteArray)=⟨gS.toArray⟩:=rfl;have CM:=af (fun W=>fT gS W (by decide));have hb4:Hid (bs [4,UInt8.ofNat cn]=[.int .u8 (4:Int),.int .u8 (cn:Int)]):=af (by unfold bs;simp only[List.map_cons,List.map_nil];rw[gv cn Yx];rfl)
  refine dM [0,3] (fun j hj=>?_);have hj:j=0\/j=3:=by simpa using hj
  rcases hj with rfl | rfl
  ·refine⟨⟨_,rfl,by kernel_rfl,fun K hK=>?_⟩⟩;go_simp;refine(CM WE).mono ?_;rintro e w2 ⟨u,rfl,Gq,hb2⟩;rw[tx]at Gq;obtain⟨au,cu,rfl⟩:=aA Gq;have S2:fN w pc (aI gS) (.slice au 6 cu) w2:=⟨SE.low.trans (hb2.mono SE.size),by rw[tx];exact aT Gq SE.size⟩;refine hK _ _ ⟨⟨fun _=>S2.pk,trivial⟩,?_⟩;clear hK K;try simp only[PT]
   refine sQ 3 fun K hK=>?_;simp only[GO];go_simp;have rj:=(Below.refl w2.heap.size w2).alloc ah (.cells #[.int .u8 4,.int .u8 (cn:Int)] 5);have mm:=LJ 4 (cn:Int) w2;have S3:=S2.step rj;refine hK _ _ ⟨⟨fun _=>S3.pk,trivial⟩,?_⟩;clear hK K;try simp only[PT]
   refine sQ 4 fun K hK=>?_;simp only[GO];refine aR _ _ rfl Tryz.vF (by decide) (w.heap.size+1) _ 6 _ rfl (by have h9:=S3.own;rw[tx]at h9;exact h9) w2.heap.size _ 2 _ rfl mm (by intro u hu;simp at hu;rcases hu with rfl | rfl<;>rfl) (by decide) (by decide) S3.size fun v4 w4 xL hg4 Qo=>?_;have S4:fN w pc (aI gS++[4,UInt8.ofNat cn]) v4 w4:=S3.app (by rw[tx,hb4];exact xL) hg4;refine hK _ _ ⟨⟨fun _=>S4.pk,trivial⟩,?_⟩;clear hK K;try simp only[PT]
   refine sQ 7 fun K hK=>?_;simp only[GO];go_simp;refine(tS kn w4 UX).mono ?_;rintro e w5 ⟨u5,rfl,Yy,eF⟩;obtain⟨a5,c5,rfl⟩:=aA Yy;have S5:=S4.step eF;refine hK _ _ ⟨⟨fun _=>S5.pk,trivial⟩,?_⟩;clear hK K;try simp only[PT]
   refine sQ 8 fun K hK=>?_;simp only[GO];refine aR _ _ rfl Tryz.vF (by decide) (w.heap.size+1) _ 8 _ rfl (by have h9:=S5.own;rw[List.length_append,tx]at h9;exact h9) w4.heap.size _ 2 _ rfl Yy (eX _) (by decide) (by decide) S5.size fun v6 w6 Yh xt hn6=>?_;have S6:Hid (fN w pc (aI gS++[4,UInt8.ofNat cn]++ay 2 kn) v6 w6):=af (S5.app (by rw[List.length_append,tx,aO];exact Yh) xt);refine hK _ _ ⟨⟨fun _=>S6.pk,trivial⟩,?_⟩;clear hK K;try simp only[PT]
   refine tQ [9] ?_;refine dQ (aL.out _ _ ?_);clear aL KQ;go_wp2;go_meet
   case rel=>exact S6
  refine⟨⟨_,rfl,by kernel_rfl,fun K hK=>?_⟩⟩;go_simp;have rj:=(Below.refl WE.heap.size WE).alloc ah (.cells #[.int .u8 4,.int .u8 (cn:Int)] 5);have Rh:=LJ 4 (cn:Int) WE;have SF:=SE.step rj;refine hK _ _ ⟨⟨fun _=>SF.pk,trivial⟩,?_⟩;clear hK K;try simp only[PT]
  obtain⟨WF,Ut⟩:=ae (WE.alloc (.cells #[.int .u8 4,.int .u8 (cn:Int)] 5));rw[Ut]at Rh SF ⊢;refine sQ 0 fun K hK=>?_;simp only[GO];go_simp;refine(CM WF).mono ?_;rintro e w2 ⟨u,rfl,Gq,hb2⟩;rw[tx]at Gq;obtain⟨au,cu,rfl⟩:=aA Gq;have S3:fN w pc (aI gS) (.slice au 6 cu) w2:=⟨SF.low.trans (hb2.mono SF.size),by rw[tx];exact aT Gq SF.size⟩;have mm:=aB Rh hb2;refine hK _ _ ⟨⟨fun _=>S3.pk,trivial⟩,?_⟩;clear hK K;try simp only[PT]
  refine sQ 4 fun K hK=>?_;simp only[GO];refine aR _ _ rfl Tryz.vF (by decide) (w.heap.size+1) _ 6 _ rfl (by have h9:=S3.own;rw[tx]at h9;exact h9) WE.heap.size _ 2 _ rfl mm (by intro u hu;simp at hu;rcases hu with rfl | rfl<;>rfl) (by decide) (by decide) S3.size fun v4 w4 xL hg4 Qo=>?_;have S4:fN w pc (aI gS++[4,UInt8.ofNat cn]) v4 w4:=S3.app (by rw[tx,hb4];exact xL) hg4;refine hK _ _ ⟨⟨fun _=>S4.pk,trivial⟩,?_⟩;clear hK K;try simp only[PT]
  refine sQ 7 fun K hK=>?_;simp only[GO];go_simp;refine(tS kn w4 UX).mono ?_;rintro e w5 ⟨u5,rfl,Yy,eF⟩;obtain⟨a5,c5,rfl⟩:=aA Yy;have S5:=S4.step eF;refine hK _ _ ⟨⟨fun _=>S5.pk,trivial⟩,?_⟩;clear hK K;try simp only[PT]
  refine sQ 8 fun K hK=>?_;simp only[GO];refine aR _ _ rfl Tryz.vF (by decide) (w.heap.size+1) _ 8 _ rfl (by have h9:=S5.own;rw[List.length_append,tx]at h9;exact h9) w4.heap.size _ 2 _ rfl Yy (eX _) (by decide) (by decide) S5.size fun v6 w6 Yh xt hn6=>?_;have S6:Hid (fN w pc (aI gS++[4,UInt8.ofNat cn]++ay 2 kn) v6 w6):=af (S5.app (by rw[List.length_append,tx,aO];exact Yh) xt);refine hK _ _ ⟨⟨fun _=>S6.pk,trivial⟩,?_⟩;clear hK K;try simp only[PT]
  refine tQ [9] ?_;refine dQ (aL.out _ _ ?_);clear aL KQ;go_wp2;go_meet
  case rel=>exact S6
 case rest=>
  have S0:=hcut;obtain⟨wa,sM⟩:=ae wc;rw[sM]at S0 ⊢;clear sM hcut SDh D3 y11 y20 y21 y30 y31 y40 y41 y50 y51 yq0 yq1 Us;obtain⟨L0,Yz⟩:=ae (aI gS++[4,UInt8.ofNat cn]++ay 2 kn);have hl0:Hid (L0.length=10):=af (by rw[<-Yz,List.length_append,List.length_append,tx,aO];rfl);rw[Yz]at S0;have Yz:=af Yz;obtain⟨TC,hTC⟩:=ae ((aI p.client).length);obtain⟨TW,PE⟩:=ae WI.length;obtain⟨TU,hTU⟩:=ae UI.length;obtain⟨TP,hTP⟩:=ae PI.length;have hlm:10+TC+TW+TU+TP<=5000:=by have h9:=Rf.out;rw[hTC,PE,hTU,hTP]at h9;exact h9
  clear Rf;have k7:wa.cell? ⟨w.heap.size,7,none⟩=some (.string ⟨p.client.toArray⟩):=kc _ S0.pk 7;have CX:=af (fT p.client wa jy);have iP:=S0.own;rw[hl0]at iP;obtain⟨av,cv,oX⟩:=aA iP;rw[oX]at S0 ⊢;clear iP oX;go_wp2_with fail;refine CX.mono ?_;rintro e w2 ⟨u,rfl,Gq,hb2⟩;have S2:=af (S0.step hb2);rw[hTC]at Gq;obtain⟨au,cu,rfl⟩:=aA Gq;have iP:=S2.own;rw[hl0]at iP;have Ei:=S2.size;clear hb2 k7;have YA:=af hTC;clear hTC;go_upto_if 52 with(at_builtin;refine wpList_plain rfl fun _ hK=>aR _ _ rfl Tryz.vF (by decide) (w.heap.size+1) _ 10 _ rfl iP wa.heap.size _ TC _ rfl Gq (eX _) (by omega) (by omega) Ei fun v3 w3 qJ hg3 Vc=>hK _ _ ?_;have S3:Hid (fN w pc (L0++aI p.client) v3 w3):=af (S2.app (by rw[hl0,YA.out];exact qJ) hg3);have gI:=(kq _ S3.pk).2.2.2.2.1;clear qJ hg3 Vc iP Gq);try simp only[PT]
  obtain⟨L1,qY⟩:=ae (L0++aI p.client);have xj:Hid (L1.length=10+TC):=af (by rw[<-qY,List.length_append,hl0,YA.out]);rw[qY]at S3;have qY:=af qY;obtain⟨L2,hL2⟩:=ae (L1++WI);have hl2:Hid (L2.length=10+TC+TW):=af (by rw[<-hL2,List.length_append,xj,PE]);have hL2:=af hL2;have iP:=S3.own;rw[xj]at iP;obtain⟨av,cv,oX⟩:=aA iP;rw[oX]at S3 ⊢;clear iP oX S2 S0;go_cut [3]from 52 (fun s3 wx=>Hid (fN w pc L2 s3 wx))
  case first=>
   cases hw with
   | false=>
    have S4:Hid (fN w pc L2 (.slice av (10+TC) cv) w3):=af (by
     have e:L2=L1:=by rw[<-hL2.out,<-Vp.out];simp
     rw[e];exact S3.out)
    go_wp2_with fail
    go_meet
    case rel=>exact S4
   | true=>
    obtain⟨T1,rz⟩:=ae ((aI p.will.topic).length);obtain⟨T2,U1⟩:=ae ((aI p.will.body).length);have ah6:T1+T2=TW:=by rw[<-rz,<-U1,<-PE,<-Vp.out];simp
    go_upto_region 8 with fail
    try simp only[PT]
    have SD:=S3.step ai.drew;refine aH [(1000,fun w'=>ar w' w.heap.size pc 52)] (by kernel_rfl) ⟨SD.pk,trivial⟩ fun KQ aL=>?_;try simp only[PT]
    obtain⟨WG,Gu⟩:=ae w3.drew;rw[Gu]at SD ⊢;clear Gu;refine tQ [0,1,2] ?_;refine aG 3 rfl (by kernel_rfl) (by kernel_rfl) rfl rfl 0 rfl (by kernel_rfl) (.string ⟨p.will.topic.toArray⟩) (fun w' hf=>by(have k0:w'.cell? ⟨w.heap.size,11,none⟩=some (.string ⟨p.will.topic.toArray⟩):=kc _ hf 11;go_simp<;>with_reducible rfl)) ?_;simp only[PT];refine tQ [6,7] ?_;refine aG 8 rfl (by kernel_rfl) (by kernel_rfl) rfl rfl 0 rfl (by kernel_rfl) (.string ⟨p.will.body.toArray⟩) (fun w' hf=>by(have k0:w'.cell? ⟨w.heap.size,12,none⟩=some (.string ⟨p.will.body.toArray⟩):=kc _ hf 12;go_simp<;>with_reducible rfl)) ?_;simp only[PT];refine sQ 4 fun K hK=>?_;simp only[GO];go_simp;refine(fT p.will.topic WG t1).mono ?_;rintro e w4 ⟨u4,rfl,hu4,hb4⟩;rw[rz]at hu4;obtain⟨a4,c4,rfl⟩:=aA hu4;have S4:=SD.step hb4;refine hK _ _ ⟨⟨fun _=>S4.pk,trivial⟩,?_⟩;clear hK K;try simp only[PT]
    refine sQ 5 fun K hK=>?_;simp only[GO];refine aR _ _ rfl Tryz.vF (by decide) (w.heap.size+1) _ (10+TC) _ rfl (by have h9:=S4.own;rw[xj]at h9;exact h9) WG.heap.size _ T1 _ rfl hu4 (eX _) (by omega) (by omega) S4.size fun v5 w5 ho5 Ha hn5=>?_;have S5:fN w pc (L1++aI p.will.topic) v5 w5:=S4.app (by rw[xj,rz];exact ho5) Ha;have hl5:(L1++aI p.will.topic).length=10+TC+T1:=by rw[List.length_append,xj,rz]
    refine hK _ _ ⟨⟨fun _=>S5.pk,trivial⟩,?_⟩;clear hK K;try simp only[PT]
    refine sQ 9 fun K hK=>?_;simp only[GO];go_simp;refine(fT p.will.body w5 t2).mono ?_;rintro e w6 ⟨u6,rfl,hu6,fj⟩;rw[U1]at hu6;obtain⟨a6,c6,rfl⟩:=aA hu6;have S6:=S5.step fj;refine hK _ _ ⟨⟨fun _=>S6.pk,trivial⟩,?_⟩;clear hK K;try simp only[PT]
    refine sQ 10 fun K hK=>?_;simp only[GO];refine aR _ _ rfl Tryz.vF (by decide) (w.heap.size+1) _ (10+TC+T1) _ rfl (by have h9:=S6.own;rw[hl5]at h9;exact h9) w5.heap.size _ T2 _ rfl hu6 (eX _) (by omega) (by omega) S6.size fun v7 w7 ho7 hg7 hn7=>?_;have S7:Hid (fN w pc L2 v7 w7):=af (by rw[<-hL2.out,<-Vp.out,if_pos rfl,<-List.append_assoc];exact S6.app (by rw[hl5,U1];exact ho7) hg7)
    refine hK _ _ ⟨⟨fun _=>S7.pk,trivial⟩,?_⟩;clear hK K;try simp only[PT]
    refine tQ [11] ?_;refine dQ (aL.out _ _ ?_);clear aL KQ;go_wp2;go_meet
    case rel=>exact S7
  case rest=>
   have S4:=hcut;obtain⟨wb,ov⟩:=ae wc;rw[ov]at S4 ⊢;clear ov hcut S3 gI;have Fz:=(kq _ S4.pk).1;obtain⟨L3,hL3⟩:=ae (L2++UI);have ug:Hid (L3.length=10+TC+TW+TU):=af (by rw[<-hL3,List.length_append,hl2,hTU]);have hL3:=af hL3;have iP:=S4.own;rw[hl2]at iP;obtain⟨bv,dv,oX⟩:=aA iP;rw[oX]at S4 ⊢;clear iP oX;go_upto_if 65 with fail;try simp only[PT]
   go_cut [3]from 65 (fun s3 wx=>Hid (fN w pc L3 s3 wx))
   case first=>
    cases hu with
    | false=>
     have S9:Hid (fN w pc L3 (.slice bv (10+TC+TW) dv) wb):=af (by
      have e:L3=L2:=by rw[<-hL3.out,<-Vq.out];simp
      rw[e];exact S4.out)
     go_wp2_with fail
     go_meet
     case rel=>exact S9
    | true=>
     have KX:wb.cell? ⟨w.heap.size,17,none⟩=some (.string ⟨p.user.toArray⟩):=kc _ S4.pk 17;have CX:=af (fT p.user wb t3);have oT:(aI p.user).length=TU:=by rw[<-hTU,<-Vq.out];rfl
     go_wp2_with fail
     refine CX.mono ?_;rintro e w8 ⟨u8,rfl,Uu,pU⟩;have S8:=af (S4.step pU);rw[oT]at Uu;obtain⟨au8,cu8,rfl⟩:=aA Uu;have iP:=S8.own;rw[hl2]at iP;have Ei:=S8.size;have Uv:=af oT;clear pU KX oT;go_wp2_with (at_builtin;refine wpList_plain rfl fun _ hK=>aR _ _ rfl Tryz.vF (by decide) (w.heap.size+1) _ (10+TC+TW) _ rfl iP wb.heap.size _ TU _ rfl Uu (eX _) (by omega) (by omega) Ei fun v9 w9 JC Cg FQ=>hK _ _ ?_);have S9:Hid (fN w pc L3 v9 w9):=af (by rw[<-hL3.out,<-Vq.out];simp only[if_true];exact S8.app (by rw[hl2,Uv.out];exact JC) Cg)
     go_meet
     case rel=>exact S9
   case rest=>
    have S5:=hcut;obtain⟨wd,hwd⟩:=ae wc;rw[hwd]at S5 ⊢;clear hwd hcut S4 Fz;have yC:=(kq _ S5.out.pk).2.1;obtain⟨L4,hL4⟩:=ae (L3++PI);have hL4:=af hL4;have iP:=S5.out.own;rw[ug]at iP;obtain⟨ev,fv,oX⟩:=aA iP;rw[oX]at S5 ⊢;clear iP oX;go_upto_if 72 with fail;try simp only[PT]
    go_cut [3]from 72 (fun s3 wx=>Hid (fN w pc L4 s3 wx))
    case first=>
     cases hp with
     | false=>
      have S9:Hid (fN w pc L4 (.slice ev (10+TC+TW+TU) fv) wd):=af (by
       have e:L4=L3:=by rw[<-hL4.out,<-Vr.out];simp
       rw[e];exact S5.out)
      go_wp2_with fail
      go_meet
      case rel=>exact S9
     | true=>
      have Jz:wd.cell? ⟨w.heap.size,18,none⟩=some (.string ⟨p.pass.toArray⟩):=kc _ S5.out.pk 18;have CX:=af (fT p.pass wd t4);have oT:(aI p.pass).length=TP:=by rw[<-hTP,<-Vr.out];rfl
      go_wp2_with fail
      refine CX.mono ?_;rintro e w8 ⟨u8,rfl,Uu,pU⟩;have S8:=af (S5.out.step pU);rw[oT]at Uu;obtain⟨au8,cu8,rfl⟩:=aA Uu;have iP:=S8.own;rw[ug]at iP;have Ei:=S8.size;have Uv:=af oT;clear pU Jz oT;go_wp2_with (at_builtin;refine wpList_plain rfl fun _ hK=>aR _ _ rfl Tryz.vF (by decide) (w.heap.size+1) _ (10+TC+TW+TU) _ rfl iP wd.heap.size _ TP _ rfl Uu (eX _) (by omega) (by omega) Ei fun v9 w9 JC Cg FQ=>hK _ _ ?_);have S9:Hid (fN w pc L4 v9 w9):=af (by rw[<-hL4.out,<-Vr.out];simp only[if_true];exact S8.app (by rw[ug,Uv.out];exact JC) Cg)
      go_meet
      case rel=>exact S9
    case rest=>
     have S6:=hcut;obtain⟨we,ZR⟩:=ae wc;rw[ZR]at S6 ⊢;clear ZR hcut S5 yC;go_wp2_with fail;go_ret;have e:aI gS++[4,UInt8.ofNat cn]++ay 2 kn++aI p.client++WI++UI++PI=L4:=by rw[Yz.out,qY.out,hL2.out,hL3.out,hL4.out]
     rw[e];exact⟨S6.ag,_,rfl,aT (base':=w.heap.size) S6.own (by omega)⟩
theorem MR(p:Pk)(h:H3)(w:World)(cd:p.In w h)(hr:aZ p):Calls prog 87 #[.agg (p.cells h).toArray] w (mv (bj p) w):=by
 have hk:=dH hr;by_cases k1:p.kind=1
 ·exact EE p h w k1 hr
 by_cases k2:p.kind=2
 ·exact Ey p h w k2 hr
 by_cases k3:p.kind=3
 ·exact Ez p h w k3 hr
 by_cases k4:4<=p.kind/\p.kind<=11
 ·exact I8 p h w cd hr k4
 by_cases Pn:p.kind=12
 ·exact Bx p h w Pn hr
 by_cases ZW:p.kind=13
 ·exact Bz p h w ZW hr
 exact BG p h w (by omega) hr
end
end Go.Proofs.YtkghejaimhoboaaGreatDoor
