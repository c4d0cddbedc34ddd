/- Parts of the proof of ScriptRaws. -/
import Derived.Test.YtkghejaimhoboaaGreatDoorPr36
set_option linter.unusedSimpArgs false
set_option linter.unusedVariables false
set_option maxRecDepth 100000
set_option maxHeartbeats 8000000
namespace Go.Proofs.YtkghejaimhoboaaGreatDoor
open Go.RowKit Go.Shelf Go.Proofs.Tryz
section
attribute [local go_sem] Oper.semAt_some
theorem r16_oneN(b:Bool)(n:Nat)(w:World):Calls prog 86 #[.bool b,.int .i64 (n:Int)] w fun e w'=>e=.returned (.int .i64 ((bitN b n:Nat):Int))/\w=w':=by refine(r16_one b (n:Int) w).mono ?_;rintro e w' ⟨rfl,rfl⟩;cases b<;>exact⟨rfl,rfl⟩
theorem bitN_le(b:Bool)(n:Nat):bitN b n<=n:=by cases b<;>simp[bitN]
theorem r16_body_1(p:Pk)(h:H3)(w:World)(hk:p.kind=1)(hr:rightP p):Calls prog 87 #[.agg (p.cells h).toArray] w (BytesP (bodyP p) w):=by
 have hlen:=bodyP_len hr;have hm:=hr.1;rw[show mayP p=mayC p from by unfold mayP;rw[if_pos hk]]at hm;obtain⟨a1,a2,a3,a4,a5⟩:=mayC_parts hm;have hq:0<=p.will.qos/\p.will.qos<=2:=by
  rcases a3 with⟨-,e⟩ | ⟨-, -, -,e⟩
  ·rw[e];exact⟨by decide,by decide⟩
  exact e
 have hcn:connN p<256:=(has_bits p.hasUser p.hasPass p.will.retain p.hasWill p.clean p.will.qos.toNat (by omega)).2.2.2.2.2.2;obtain⟨qn,hqn⟩:=Int.eq_ofNat_of_zero_le hq.1;obtain⟨kn,hkn⟩:=Int.eq_ofNat_of_zero_le a2.1;have hq2:qn<=2:=by omega
 have hk5:kn<=65535:=by omega
 have hcl:p.client.length<=65535:=by have:=saidN_len a1;omega
 have t1:p.will.topic.length<=65535:=by
  rcases a3 with⟨-,e⟩ | ⟨-,e, -⟩
  ·rw[e];decide
  have:=nameR_len e;omega
 have t2:p.will.body.length<=65535:=by
  rcases a3 with⟨-,e⟩ | ⟨-, -,e, -⟩
  ·rw[e];decide
  omega
 have t3:p.user.length<=65535:=by
  rcases a4 with⟨-,e⟩ | ⟨-,e⟩
  ·have:=saidN_len e;omega
  rw[e];decide
 have t4:p.pass.length<=65535:=by
  rcases a5 with⟨-,e⟩ | ⟨-,e⟩
  ·omega
  rw[e];decide
 obtain⟨hu,hhu⟩:=gen_of p.hasUser;obtain⟨hp,hhp⟩:=gen_of p.hasPass;obtain⟨hw,hhw⟩:=gen_of p.hasWill;obtain⟨rt,hrt⟩:=gen_of p.will.retain;obtain⟨cl,hcle⟩:=gen_of p.clean;have hsum:connN p=bitN hu 128+bitN hp 64+bitN rt 32+8*qn+bitN hw 4+bitN cl 2:=by unfold connN;rw[hhu,hhp,hhw,hrt,hcle,hqn];simp only[Int.toNat_natCast];omega
 obtain⟨cn,hcne⟩:=gen_of (connN p);have hbody:bodyP p=txtB mqtt++[4,UInt8.ofNat cn]++numB 2 kn++txtB p.client++(if hw then txtB p.will.topic++txtB p.will.body else[])++(if hu then txtB p.user else[])++(if hp then txtB p.pass else[]):=by unfold bodyP;rw[if_pos hk,hcne,numB_1 4 (by decide),numB_1 cn (by omega),hkn,hhw,hhu,hhp];simp[List.append_assoc]
 obtain⟨WI,hWI⟩:=gen_of (if hw then txtB p.will.topic++txtB p.will.body else[]);obtain⟨UI,hUI⟩:=gen_of (if hu then txtB p.user else[]);obtain⟨PI,hPI⟩:=gen_of (if hp then txtB p.pass else[]);rw[hWI,hUI,hPI]at hbody;rw[hbody]at hlen ⊢;simp only[List.length_append,List.length_cons,List.length_nil]at hlen;obtain⟨pc,hpc⟩:=gen_of ((p.cells h).toArray);have kc:Hid (∀W,Blk W w.heap.size pc 52->∀i,W.cell? ⟨w.heap.size,i,none⟩=(p.cells h)[i]?):=hid fun W hb i=>by rw[hb.cell,<-hpc];simp
 have S0:Hid (BoI w pc [] (.slice none 0 0) (w.alloc (.cells pc 52))):=hid (BoI.start bel_refl);rw[hpc];replace hpc:=hid hpc;have k0:(w.alloc (.cells pc 52)).cell? ⟨w.heap.size,0,none⟩=some (.int .i64 1):=by rw[<-hk];exact kc _ S0.pk 0
 have kq:Hid (∀W,Blk W w.heap.size pc 52->W.cell? ⟨w.heap.size,15,none⟩=some (.bool hu)/\W.cell? ⟨w.heap.size,16,none⟩=some (.bool hp)/\W.cell? ⟨w.heap.size,14,none⟩=some (.bool rt)/\W.cell? ⟨w.heap.size,13,none⟩=some (.int .i64 (qn:Int))/\W.cell? ⟨w.heap.size,10,none⟩=some (.bool hw)/\W.cell? ⟨w.heap.size,8,none⟩=some (.bool cl)/\W.cell? ⟨w.heap.size,9,none⟩=some (.int .i64 (kn:Int))):=hid fun W hb=>⟨by rw[<-hhu];exact kc _ hb 15,by rw[<-hhp];exact kc _ hb 16,by rw[<-hrt];exact kc _ hb 14,by rw[<-hqn];exact kc _ hb 13,by rw[<-hhw];exact kc _ hb 10,by rw[<-hcle];exact kc _ hb 8,by rw[<-hkn];exact kc _ hb 9⟩;have hlen:=hid hlen;have hWI:=hid hWI;have hUI:=hid hUI;have hPI:=hid hPI;obtain⟨z1,hz1⟩:=gen_of (((bitN hu 128:Nat):Int):Int);obtain⟨z2,hz2⟩:=gen_of (((bitN hp 64:Nat):Int):Int);obtain⟨z3,hz3⟩:=gen_of (((bitN rt 32:Nat):Int):Int);obtain⟨z4,hz4⟩:=gen_of (((bitN hw 4:Nat):Int):Int);obtain⟨z5,hz5⟩:=gen_of (((bitN cl 2:Nat):Int):Int);obtain⟨zq,hzq⟩:=gen_of ((qn:Int):Int);have y1:0<=z1/\z1<=128:=by have:=bitN_le hu 128;omega
 have y2:0<=z2/\z2<=64:=by have:=bitN_le hp 64;omega
 have y3:0<=z3/\z3<=32:=by have:=bitN_le rt 32;omega
 have y4:0<=z4/\z4<=4:=by have:=bitN_le hw 4;omega
 have y5:0<=z5/\z5<=2:=by have:=bitN_le cl 2;omega
 have yq:0<=zq/\zq<=2:=by omega
 have ysum:z1+z2+z3+8*zq+z4+z5=(cn:Int):=by omega
 have hcn5:cn<256:=by omega
 rw[hzq]at kq;clear hhu hhp hhw hrt hcle hsum hcne hbody a1 a2 a3 a4 a5 hm hr hq hqn hkn hcn;have C1:=hid (fun W=>r16_oneN hu 128 W);have C2:=hid (fun W=>r16_oneN hp 64 W);have C3:=hid (fun W=>r16_oneN rt 32 W);have C4:=hid (fun W=>r16_oneN hw 4 W);have C5:=hid (fun W=>r16_oneN cl 2 W);rw[hz1]at C1;rw[hz2]at C2;rw[hz3]at C3;rw[hz4]at C4;rw[hz5]at C5;clear hz1 hz2 hz3 hz4 hz5 hzq;obtain⟨y10,y11⟩:=y1;obtain⟨y20,y21⟩:=y2;obtain⟨y30,y31⟩:=y3;obtain⟨y40,y41⟩:=y4;obtain⟨y50,y51⟩:=y5;obtain⟨yq0,yq1⟩:=yq;go_enter func87,ntmps87;go_upto_region 4 with fail
 try simp only[PT]
 have SD:=S0.step bel_refl.drew;refine regionQ [(1000,fun w'=>Blk w' w.heap.size pc 52)] (by kernel_rfl) ⟨SD.pk,trivial⟩ fun KQ hKQ=>?_;try simp only[PT]
 obtain⟨WD,hWD⟩:=gen_of ((w.alloc (.cells pc 52)).drew);rw[hWD]at SD ⊢;refine tQ [0] ?_;refine loadQ 1 rfl (by kernel_rfl) (by kernel_rfl) rfl rfl 0 rfl (by kernel_rfl) (.bool hu) (fun w' hf=>by(have k0:=(kq _ hf).1;go_simp<;>with_reducible rfl)) ?_;simp only[PT];refine tQ [3] ?_;refine loadQ 4 rfl (by kernel_rfl) (by kernel_rfl) rfl rfl 0 rfl (by kernel_rfl) (.bool hp) (fun w' hf=>by(have k0:=(kq _ hf).2.1;go_simp<;>with_reducible rfl)) ?_;simp only[PT];refine tQ [7,8] ?_;refine loadQ 9 rfl (by kernel_rfl) (by kernel_rfl) rfl rfl 0 rfl (by kernel_rfl) (.bool rt) (fun w' hf=>by(have k0:=(kq _ hf).2.2.1;go_simp<;>with_reducible rfl)) ?_;simp only[PT];refine tQ [12,13] ?_;refine loadQ 14 rfl (by kernel_rfl) (by kernel_rfl) rfl rfl 0 rfl (by kernel_rfl) (.int .i64 zq) (fun w' hf=>by(have k0:=(kq _ hf).2.2.2.1;go_simp<;>with_reducible rfl)) ?_;simp only[PT];refine tQ [15,17] ?_;refine loadQ 18 rfl (by kernel_rfl) (by kernel_rfl) rfl rfl 0 rfl (by kernel_rfl) (.bool hw) (fun w' hf=>by(have k0:=(kq _ hf).2.2.2.2.1;go_simp<;>with_reducible rfl)) ?_;simp only[PT];refine tQ [21] ?_;refine loadQ 22 rfl (by kernel_rfl) (by kernel_rfl) rfl rfl 0 rfl (by kernel_rfl) (.bool cl) (fun w' hf=>by(have k0:=(kq _ hf).2.2.2.2.2.1;go_simp<;>with_reducible rfl)) ?_;simp only[PT];refine sQ 2 fun K hK=>?_;simp only[GO];go_simp;refine(C1 WD).mono ?_;rintro e w1 ⟨rfl,rfl⟩;refine hK _ _ ⟨⟨fun _=>SD.pk,trivial⟩,?_⟩;clear hK K;try simp only[PT]
 refine sQ 5 fun K hK=>?_;simp only[GO];go_simp;refine(C2 WD).mono ?_;rintro e w1 ⟨rfl,rfl⟩;refine hK _ _ ⟨⟨fun _=>SD.pk,trivial⟩,?_⟩;clear hK K;try simp only[PT]
 refine tQ [6] ?_;refine sQ 10 fun K hK=>?_;simp only[GO];go_simp;refine(C3 WD).mono ?_;rintro e w1 ⟨rfl,rfl⟩;refine hK _ _ ⟨⟨fun _=>SD.pk,trivial⟩,?_⟩;clear hK K;try simp only[PT]
 refine tQ [11,16] ?_;refine sQ 19 fun K hK=>?_;simp only[GO];go_simp;refine(C4 WD).mono ?_;rintro e w1 ⟨rfl,rfl⟩;refine hK _ _ ⟨⟨fun _=>SD.pk,trivial⟩,?_⟩;clear hK K;try simp only[PT]
 refine tQ [20] ?_;refine sQ 23 fun K hK=>?_;simp only[GO];go_simp;refine(C5 WD).mono ?_;rintro e w1 ⟨rfl,rfl⟩;refine hK _ _ ⟨⟨fun _=>SD.pk,trivial⟩,?_⟩;clear hK K;try simp only[PT]
 refine tQ [24,25] ?_;refine dQ (hKQ.out _ _ ?_);clear hKQ KQ;have SDh:=hid SD;clear C1 C2 C3 C4 C5 SD S0 hWD k0;have hwc:IntKind.u8.wrap (cn:Int)=(cn:Int):=wrap_u8 cn hcn5;go_upto_region 5 with fail
 try simp only[PT]
 have hm6:(txtB mqtt).length=6:=by decide
 have hlen2:Hid (10+(txtB p.client).length+WI.length+UI.length+PI.length<=5000):=hid (by have h9:=hlen.out;rw[numB_len,hm6]at h9;omega);clear hlen;go_cut [3]from 37 (fun s3 wx=>Hid (BoI w pc (txtB mqtt++[4,UInt8.ofNat cn]++numB 2 kn) s3 wx))
 case first=>
  have SE:=SDh.step bel_refl.drew;refine regionQ [(1000,fun w'=>Blk w' w.heap.size pc 52)] (by kernel_rfl) ⟨SE.pk,trivial⟩ fun KQ hKQ=>?_;try simp only[PT]
  obtain⟨WE,hWE⟩:=gen_of WD.drew;rw[hWE]at SE ⊢;clear hWE SDh;refine tQ [1,2,5] ?_;refine loadQ 6 rfl (by kernel_rfl) (by kernel_rfl) rfl rfl 0 rfl (by kernel_rfl) (.int .i64 (kn:Int)) (fun w' hf=>by(have k0:=(kq _ hf).2.2.2.2.2.2;go_simp<;>with_reducible rfl)) ?_;simp only[PT];have hmq:(⟨#[77,81,84,84]⟩:ByteArray)=⟨mqtt.toArray⟩:=rfl;have CM:=hid (fun W=>r16_text mqtt W (by decide));have hb4:Hid (bs [4,UInt8.ofNat cn]=[.int .u8 (4:Int),.int .u8 (cn:Int)]):=hid (by unfold bs;simp only[List.map_cons,List.map_nil];rw[u8_of cn hcn5];rfl)
  refine stepM [0,3] (fun j hj=>?_);have hj:j=0\/j=3:=by simpa using hj
  rcases hj with rfl | rfl
  ·refine⟨⟨_,rfl,by kernel_rfl,fun K hK=>?_⟩⟩;go_simp;refine(CM WE).mono ?_;rintro e w2 ⟨u,rfl,hu2,hb2⟩;rw[hm6]at hu2;obtain⟨au,cu,rfl⟩:=own_slice hu2;have S2:BoI w pc (txtB mqtt) (.slice au 6 cu) w2:=⟨SE.low.trans (hb2.mono SE.size),by rw[hm6];exact ownsRow_mono hu2 SE.size⟩;refine hK _ _ ⟨⟨fun _=>S2.pk,trivial⟩,?_⟩;clear hK K;try simp only[PT]
   refine sQ 3 fun K hK=>?_;simp only[GO];go_simp;have bal:=(Below.refl w2.heap.size w2).alloc nat_le_rfl (.cells #[.int .u8 4,.int .u8 (cn:Int)] 5);have hlit:=lit2 4 (cn:Int) w2;have S3:=S2.step bal;refine hK _ _ ⟨⟨fun _=>S3.pk,trivial⟩,?_⟩;clear hK K;try simp only[PT]
   refine sQ 4 fun K hK=>?_;simp only[GO];refine wp_append_rows _ _ rfl Tryz.eB8 (by decide) (w.heap.size+1) _ 6 _ rfl (by have h9:=S3.own;rw[hm6]at h9;exact h9) w2.heap.size _ 2 _ rfl hlit (by intro u hu;simp at hu;rcases hu with rfl | rfl<;>rfl) (by decide) (by decide) S3.size fun v4 w4 ho4 hg4 hn4=>?_;have S4:BoI w pc (txtB mqtt++[4,UInt8.ofNat cn]) v4 w4:=S3.app (by rw[hm6,hb4];exact ho4) hg4;refine hK _ _ ⟨⟨fun _=>S4.pk,trivial⟩,?_⟩;clear hK K;try simp only[PT]
   refine sQ 7 fun K hK=>?_;simp only[GO];go_simp;refine(r16_two kn w4 hk5).mono ?_;rintro e w5 ⟨u5,rfl,hu5,hb5⟩;obtain⟨a5,c5,rfl⟩:=own_slice hu5;have S5:=S4.step hb5;refine hK _ _ ⟨⟨fun _=>S5.pk,trivial⟩,?_⟩;clear hK K;try simp only[PT]
   refine sQ 8 fun K hK=>?_;simp only[GO];refine wp_append_rows _ _ rfl Tryz.eB8 (by decide) (w.heap.size+1) _ 8 _ rfl (by have h9:=S5.own;rw[List.length_append,hm6]at h9;exact h9) w4.heap.size _ 2 _ rfl hu5 (bs_one _) (by decide) (by decide) S5.size fun v6 w6 ho6 hg6 hn6=>?_;have S6:Hid (BoI w pc (txtB mqtt++[4,UInt8.ofNat cn]++numB 2 kn) v6 w6):=hid (S5.app (by rw[List.length_append,hm6,numB_len];exact ho6) hg6);refine hK _ _ ⟨⟨fun _=>S6.pk,trivial⟩,?_⟩;clear hK K;try simp only[PT]
   refine tQ [9] ?_;refine dQ (hKQ.out _ _ ?_);clear hKQ KQ;go_wp2;go_meet
   case rel=>exact S6
  refine⟨⟨_,rfl,by kernel_rfl,fun K hK=>?_⟩⟩;go_simp;have bal:=(Below.refl WE.heap.size WE).alloc nat_le_rfl (.cells #[.int .u8 4,.int .u8 (cn:Int)] 5);have hlit0:=lit2 4 (cn:Int) WE;have SF:=SE.step bal;refine hK _ _ ⟨⟨fun _=>SF.pk,trivial⟩,?_⟩;clear hK K;try simp only[PT]
  obtain⟨WF,hWF⟩:=gen_of (WE.alloc (.cells #[.int .u8 4,.int .u8 (cn:Int)] 5));rw[hWF]at hlit0 SF ⊢;refine sQ 0 fun K hK=>?_;simp only[GO];go_simp;refine(CM WF).mono ?_;rintro e w2 ⟨u,rfl,hu2,hb2⟩;rw[hm6]at hu2;obtain⟨au,cu,rfl⟩:=own_slice hu2;have S3:BoI w pc (txtB mqtt) (.slice au 6 cu) w2:=⟨SF.low.trans (hb2.mono SF.size),by rw[hm6];exact ownsRow_mono hu2 SF.size⟩;have hlit:=ownsRow_below hlit0 hb2;refine hK _ _ ⟨⟨fun _=>S3.pk,trivial⟩,?_⟩;clear hK K;try simp only[PT]
  refine sQ 4 fun K hK=>?_;simp only[GO];refine wp_append_rows _ _ rfl Tryz.eB8 (by decide) (w.heap.size+1) _ 6 _ rfl (by have h9:=S3.own;rw[hm6]at h9;exact h9) WE.heap.size _ 2 _ rfl hlit (by intro u hu;simp at hu;rcases hu with rfl | rfl<;>rfl) (by decide) (by decide) S3.size fun v4 w4 ho4 hg4 hn4=>?_;have S4:BoI w pc (txtB mqtt++[4,UInt8.ofNat cn]) v4 w4:=S3.app (by rw[hm6,hb4];exact ho4) hg4;refine hK _ _ ⟨⟨fun _=>S4.pk,trivial⟩,?_⟩;clear hK K;try simp only[PT]
  refine sQ 7 fun K hK=>?_;simp only[GO];go_simp;refine(r16_two kn w4 hk5).mono ?_;rintro e w5 ⟨u5,rfl,hu5,hb5⟩;obtain⟨a5,c5,rfl⟩:=own_slice hu5;have S5:=S4.step hb5;refine hK _ _ ⟨⟨fun _=>S5.pk,trivial⟩,?_⟩;clear hK K;try simp only[PT]
  refine sQ 8 fun K hK=>?_;simp only[GO];refine wp_append_rows _ _ rfl Tryz.eB8 (by decide) (w.heap.size+1) _ 8 _ rfl (by have h9:=S5.own;rw[List.length_append,hm6]at h9;exact h9) w4.heap.size _ 2 _ rfl hu5 (bs_one _) (by decide) (by decide) S5.size fun v6 w6 ho6 hg6 hn6=>?_;have S6:Hid (BoI w pc (txtB mqtt++[4,UInt8.ofNat cn]++numB 2 kn) v6 w6):=hid (S5.app (by rw[List.length_append,hm6,numB_len];exact ho6) hg6);refine hK _ _ ⟨⟨fun _=>S6.pk,trivial⟩,?_⟩;clear hK K;try simp only[PT]
  refine tQ [9] ?_;refine dQ (hKQ.out _ _ ?_);clear hKQ KQ;go_wp2;go_meet
  case rel=>exact S6
 case rest=>
  have S0:=hcut;obtain⟨wa,hwa⟩:=gen_of wc;rw[hwa]at S0 ⊢;clear hwa hcut SDh y10 y11 y20 y21 y30 y31 y40 y41 y50 y51 yq0 yq1 ysum;obtain⟨L0,hL0⟩:=gen_of (txtB mqtt++[4,UInt8.ofNat cn]++numB 2 kn);have hl0:Hid (L0.length=10):=hid (by rw[<-hL0,List.length_append,List.length_append,hm6,numB_len];rfl);rw[hL0]at S0;have hL0:=hid hL0;obtain⟨TC,hTC⟩:=gen_of ((txtB p.client).length);obtain⟨TW,hTW⟩:=gen_of WI.length;obtain⟨TU,hTU⟩:=gen_of UI.length;obtain⟨TP,hTP⟩:=gen_of PI.length;have hlm:10+TC+TW+TU+TP<=5000:=by have h9:=hlen2.out;rw[hTC,hTW,hTU,hTP]at h9;exact h9
  clear hlen2;have k7:wa.cell? ⟨w.heap.size,7,none⟩=some (.string ⟨p.client.toArray⟩):=kc _ S0.pk 7;have CX:=hid (r16_text p.client wa hcl);have hso:=S0.own;rw[hl0]at hso;obtain⟨av,cv,hvv⟩:=own_slice hso;rw[hvv]at S0 ⊢;clear hso hvv;go_wp2_with fail;refine CX.mono ?_;rintro e w2 ⟨u,rfl,hu2,hb2⟩;have S2:=hid (S0.step hb2);rw[hTC]at hu2;obtain⟨au,cu,rfl⟩:=own_slice hu2;have hso:=S2.own;rw[hl0]at hso;have hss:=S2.size;clear hb2 k7;have hTCh:=hid hTC;clear hTC;go_upto_if 52 with(at_builtin;refine wpList_plain rfl fun _ hK=>wp_append_rows _ _ rfl Tryz.eB8 (by decide) (w.heap.size+1) _ 10 _ rfl hso wa.heap.size _ TC _ rfl hu2 (bs_one _) (by omega) (by omega) hss fun v3 w3 ho3 hg3 hn3=>hK _ _ ?_;have S3:Hid (BoI w pc (L0++txtB p.client) v3 w3):=hid (S2.app (by rw[hl0,hTCh.out];exact ho3) hg3);have k10:=(kq _ S3.pk).2.2.2.2.1;clear ho3 hg3 hn3 hso hu2);try simp only[PT]
  obtain⟨L1,hL1⟩:=gen_of (L0++txtB p.client);have hl1:Hid (L1.length=10+TC):=hid (by rw[<-hL1,List.length_append,hl0,hTCh.out]);rw[hL1]at S3;have hL1:=hid hL1;obtain⟨L2,hL2⟩:=gen_of (L1++WI);have hl2:Hid (L2.length=10+TC+TW):=hid (by rw[<-hL2,List.length_append,hl1,hTW]);have hL2:=hid hL2;have hso:=S3.own;rw[hl1]at hso;obtain⟨av,cv,hvv⟩:=own_slice hso;rw[hvv]at S3 ⊢;clear hso hvv S2 S0;go_cut [3]from 52 (fun s3 wx=>Hid (BoI w pc L2 s3 wx))
  case first=>
   cases hw with
   | false=>
    have S4:Hid (BoI w pc L2 (.slice av (10+TC) cv) w3):=hid (by
     have e:L2=L1:=by rw[<-hL2.out,<-hWI.out];simp
     rw[e];exact S3.out)
    go_wp2_with fail
    go_meet
    case rel=>exact S4
   | true=>
    obtain⟨T1,hT1⟩:=gen_of ((txtB p.will.topic).length);obtain⟨T2,hT2⟩:=gen_of ((txtB p.will.body).length);have hT12:T1+T2=TW:=by rw[<-hT1,<-hT2,<-hTW,<-hWI.out];simp
    go_upto_region 8 with fail
    try simp only[PT]
    have SD:=S3.step bel_refl.drew;refine regionQ [(1000,fun w'=>Blk w' w.heap.size pc 52)] (by kernel_rfl) ⟨SD.pk,trivial⟩ fun KQ hKQ=>?_;try simp only[PT]
    obtain⟨WG,hWG⟩:=gen_of w3.drew;rw[hWG]at SD ⊢;clear hWG;refine tQ [0,1,2] ?_;refine loadQ 3 rfl (by kernel_rfl) (by kernel_rfl) rfl rfl 0 rfl (by kernel_rfl) (.string ⟨p.will.topic.toArray⟩) (fun w' hf=>by(have k0:w'.cell? ⟨w.heap.size,11,none⟩=some (.string ⟨p.will.topic.toArray⟩):=kc _ hf 11;go_simp<;>with_reducible rfl)) ?_;simp only[PT];refine tQ [6,7] ?_;refine loadQ 8 rfl (by kernel_rfl) (by kernel_rfl) rfl rfl 0 rfl (by kernel_rfl) (.string ⟨p.will.body.toArray⟩) (fun w' hf=>by(have k0:w'.cell? ⟨w.heap.size,12,none⟩=some (.string ⟨p.will.body.toArray⟩):=kc _ hf 12;go_simp<;>with_reducible rfl)) ?_;simp only[PT];refine sQ 4 fun K hK=>?_;simp only[GO];go_simp;refine(r16_text p.will.topic WG t1).mono ?_;rintro e w4 ⟨u4,rfl,hu4,hb4⟩;rw[hT1]at hu4;obtain⟨a4,c4,rfl⟩:=own_slice hu4;have S4:=SD.step hb4;refine hK _ _ ⟨⟨fun _=>S4.pk,trivial⟩,?_⟩;clear hK K;try simp only[PT]
    refine sQ 5 fun K hK=>?_;simp only[GO];refine wp_append_rows _ _ rfl Tryz.eB8 (by decide) (w.heap.size+1) _ (10+TC) _ rfl (by have h9:=S4.own;rw[hl1]at h9;exact h9) WG.heap.size _ T1 _ rfl hu4 (bs_one _) (by omega) (by omega) S4.size fun v5 w5 ho5 hg5 hn5=>?_;have S5:BoI w pc (L1++txtB p.will.topic) v5 w5:=S4.app (by rw[hl1,hT1];exact ho5) hg5;have hl5:(L1++txtB p.will.topic).length=10+TC+T1:=by rw[List.length_append,hl1,hT1]
    refine hK _ _ ⟨⟨fun _=>S5.pk,trivial⟩,?_⟩;clear hK K;try simp only[PT]
    refine sQ 9 fun K hK=>?_;simp only[GO];go_simp;refine(r16_text p.will.body w5 t2).mono ?_;rintro e w6 ⟨u6,rfl,hu6,hb6⟩;rw[hT2]at hu6;obtain⟨a6,c6,rfl⟩:=own_slice hu6;have S6:=S5.step hb6;refine hK _ _ ⟨⟨fun _=>S6.pk,trivial⟩,?_⟩;clear hK K;try simp only[PT]
    refine sQ 10 fun K hK=>?_;simp only[GO];refine wp_append_rows _ _ rfl Tryz.eB8 (by decide) (w.heap.size+1) _ (10+TC+T1) _ rfl (by have h9:=S6.own;rw[hl5]at h9;exact h9) w5.heap.size _ T2 _ rfl hu6 (bs_one _) (by omega) (by omega) S6.size fun v7 w7 ho7 hg7 hn7=>?_;have S7:Hid (BoI w pc L2 v7 w7):=hid (by rw[<-hL2.out,<-hWI.out,if_pos rfl,<-List.append_assoc];exact S6.app (by rw[hl5,hT2];exact ho7) hg7)
    refine hK _ _ ⟨⟨fun _=>S7.pk,trivial⟩,?_⟩;clear hK K;try simp only[PT]
    refine tQ [11] ?_;refine dQ (hKQ.out _ _ ?_);clear hKQ KQ;go_wp2;go_meet
    case rel=>exact S7
  case rest=>
   have S4:=hcut;obtain⟨wb,hwb⟩:=gen_of wc;rw[hwb]at S4 ⊢;clear hwb hcut S3 k10;have k15:=(kq _ S4.pk).1;obtain⟨L3,hL3⟩:=gen_of (L2++UI);have hl3:Hid (L3.length=10+TC+TW+TU):=hid (by rw[<-hL3,List.length_append,hl2,hTU]);have hL3:=hid hL3;have hso:=S4.own;rw[hl2]at hso;obtain⟨bv,dv,hvv⟩:=own_slice hso;rw[hvv]at S4 ⊢;clear hso hvv;go_upto_if 65 with fail;try simp only[PT]
   go_cut [3]from 65 (fun s3 wx=>Hid (BoI w pc L3 s3 wx))
   case first=>
    cases hu with
    | false=>
     have S9:Hid (BoI w pc L3 (.slice bv (10+TC+TW) dv) wb):=hid (by
      have e:L3=L2:=by rw[<-hL3.out,<-hUI.out];simp
      rw[e];exact S4.out)
     go_wp2_with fail
     go_meet
     case rel=>exact S9
    | true=>
     have k17:wb.cell? ⟨w.heap.size,17,none⟩=some (.string ⟨p.user.toArray⟩):=kc _ S4.pk 17;have CX:=hid (r16_text p.user wb t3);have hnx:(txtB p.user).length=TU:=by rw[<-hTU,<-hUI.out];rfl
     go_wp2_with fail
     refine CX.mono ?_;rintro e w8 ⟨u8,rfl,hu8,hb8⟩;have S8:=hid (S4.step hb8);rw[hnx]at hu8;obtain⟨au8,cu8,rfl⟩:=own_slice hu8;have hso:=S8.own;rw[hl2]at hso;have hss:=S8.size;have hnxh:=hid hnx;clear hb8 k17 hnx;go_wp2_with (at_builtin;refine wpList_plain rfl fun _ hK=>wp_append_rows _ _ rfl Tryz.eB8 (by decide) (w.heap.size+1) _ (10+TC+TW) _ rfl hso wb.heap.size _ TU _ rfl hu8 (bs_one _) (by omega) (by omega) hss fun v9 w9 ho9 hg9 hn9=>hK _ _ ?_);have S9:Hid (BoI w pc L3 v9 w9):=hid (by rw[<-hL3.out,<-hUI.out];simp only[if_true];exact S8.app (by rw[hl2,hnxh.out];exact ho9) hg9)
     go_meet
     case rel=>exact S9
   case rest=>
    have S5:=hcut;obtain⟨wd,hwd⟩:=gen_of wc;rw[hwd]at S5 ⊢;clear hwd hcut S4 k15;have k16:=(kq _ S5.out.pk).2.1;obtain⟨L4,hL4⟩:=gen_of (L3++PI);have hL4:=hid hL4;have hso:=S5.out.own;rw[hl3]at hso;obtain⟨ev,fv,hvv⟩:=own_slice hso;rw[hvv]at S5 ⊢;clear hso hvv;go_upto_if 72 with fail;try simp only[PT]
    go_cut [3]from 72 (fun s3 wx=>Hid (BoI w pc L4 s3 wx))
    case first=>
     cases hp with
     | false=>
      have S9:Hid (BoI w pc L4 (.slice ev (10+TC+TW+TU) fv) wd):=hid (by
       have e:L4=L3:=by rw[<-hL4.out,<-hPI.out];simp
       rw[e];exact S5.out)
      go_wp2_with fail
      go_meet
      case rel=>exact S9
     | true=>
      have k18:wd.cell? ⟨w.heap.size,18,none⟩=some (.string ⟨p.pass.toArray⟩):=kc _ S5.out.pk 18;have CX:=hid (r16_text p.pass wd t4);have hnx:(txtB p.pass).length=TP:=by rw[<-hTP,<-hPI.out];rfl
      go_wp2_with fail
      refine CX.mono ?_;rintro e w8 ⟨u8,rfl,hu8,hb8⟩;have S8:=hid (S5.out.step hb8);rw[hnx]at hu8;obtain⟨au8,cu8,rfl⟩:=own_slice hu8;have hso:=S8.own;rw[hl3]at hso;have hss:=S8.size;have hnxh:=hid hnx;clear hb8 k18 hnx;go_wp2_with (at_builtin;refine wpList_plain rfl fun _ hK=>wp_append_rows _ _ rfl Tryz.eB8 (by decide) (w.heap.size+1) _ (10+TC+TW+TU) _ rfl hso wd.heap.size _ TP _ rfl hu8 (bs_one _) (by omega) (by omega) hss fun v9 w9 ho9 hg9 hn9=>hK _ _ ?_);have S9:Hid (BoI w pc L4 v9 w9):=hid (by rw[<-hL4.out,<-hPI.out];simp only[if_true];exact S8.app (by rw[hl3,hnxh.out];exact ho9) hg9)
      go_meet
      case rel=>exact S9
    case rest=>
     have S6:=hcut;obtain⟨we,hwe⟩:=gen_of wc;rw[hwe]at S6 ⊢;clear hwe hcut S5 k16;go_wp2_with fail;go_ret;have e:txtB mqtt++[4,UInt8.ofNat cn]++numB 2 kn++txtB p.client++WI++UI++PI=L4:=by rw[hL0.out,hL1.out,hL2.out,hL3.out,hL4.out]
     rw[e];exact⟨S6.below,_,rfl,ownsRow_mono (base':=w.heap.size) S6.own (by omega)⟩
theorem r16_body(p:Pk)(h:H3)(w:World)(hin:p.In w h)(hr:rightP p):Calls prog 87 #[.agg (p.cells h).toArray] w (BytesP (bodyP p) w):=by
 have hk:=rightP_kind hr;by_cases k1:p.kind=1
 ·exact r16_body_1 p h w k1 hr
 by_cases k2:p.kind=2
 ·exact r16_body_2 p h w k2 hr
 by_cases k3:p.kind=3
 ·exact r16_body_3 p h w k3 hr
 by_cases k4:4<=p.kind/\p.kind<=11
 ·exact r16_bodyL p h w hin hr k4
 by_cases k12:p.kind=12
 ·exact r16_body_12 p h w k12 hr
 by_cases k13:p.kind=13
 ·exact r16_body_13 p h w k13 hr
 exact r16_body_14 p h w (by omega) hr
end
section
theorem bk_R16H_rawtail1{P:Prop}(h:P:=by
 go_upto_region 9 with fail
 have CB:=hid (r16_body p h WW0 (HIN.below HS0.below) hr.out);rw[hpc.out]at CB;have ta:=HS0.pk;have tok:=hid trivial;go_wp2_with (clear tok;refine wL 52 rfl rfl ta underlying52 ?_ rfl rfl ic.out);refine CB.mono ?_;rintro e w1 ⟨hb1,v1,rfl,ho1⟩;obtain⟨bl,hbl⟩:=gen_of ((bodyP p).length);rw[hbl]at ho1;have hbl5:bl<=5000:=by rw[<-hbl];exact hlen.out
 obtain⟨a1,c1,rfl⟩:=own_slice ho1;have S1:=hid (HS0.step hb1);have HO1:=hid (ownsRow_mono (base':=w.heap.size+1) ho1 HS0.size);have k0b:=(kq _ S1.pk).1;have CL:=hid (ref_raw (bl:Int) w1 (by unfold mayL;simp;omega));have hbl:=hid hbl;clear ho1 hb1 CB ta;go_wp2_with fail;refine CL.mono ?_;rintro e w2 ⟨v2,rfl,ho2,hb2⟩;have hs4:=sizeL_le4 (bl:Int);have hraw:Hid (bs (rawPk p)=[.int .u8 fb]++bs (rawL (sizeL (bl:Int)) bl)++bs (bodyP p)):=hid (by unfold rawPk lenB;rw[hbl.out,show(UInt8.ofNat (16*p.kind.toNat+flagN p)::(rawL (sizeL (bl:Int)) bl++bodyP p))=[UInt8.ofNat (16*p.kind.toNat+flagN p)]++(rawL (sizeL (bl:Int)) bl++bodyP p)from rfl,bs_app,bs_app,<-List.append_assoc];congr 2;unfold bs;simp only[List.map_cons,List.map_nil];rw[u8_of _ (by have:=flagN_lt hr.out;have:=rightP_kind hr.out;omega)];have h1:=hfl.out;have h2:=hkd.out;congr 2;omega)
 have hrl:Hid ((rawPk p).length=1+sizeL (bl:Int)+bl):=hid (by unfold rawPk lenB;rw[List.length_cons,List.length_append,rawL_len,hbl.out];omega)
 obtain⟨sl,hsl⟩:=gen_of (sizeL (bl:Int));rw[hsl]at ho2 hraw hs4 hrl;rw[show((bl:Nat):Int).toNat=bl from rfl]at ho2;obtain⟨a2,c2,rfl⟩:=own_slice ho2;have S2:=hid (S1.step hb2);have HO2:=hid (ownsRow_mono (base':=w.heap.size+1) ho2 S1.size);have HB2:=hid (ownsRow_below HO1.out hb2);have k0c:=(kq _ S2.pk).1;have hs2:=S2.size;have hsl:=hid hsl;have hwr:=hwr.out;clear ho2 hb2 CL k0b HO1 S1;have t1:=hid trivial;have t2:=hid trivial;have bal:=(Below.refl w2.heap.size w2).alloc nat_le_rfl (.cells #[.int .u8 fb] 5);have HL:=hid (lit1 fb w2);have HO2a:=hid (ownsRow_below HO2.out bal);have HB2a:=hid (ownsRow_below HB2.out bal);have S2a:=hid (S2.step bal);have hlt2:=hid HB2.lt;clear HO2 HB2 bal;go_wp2_with (first
  | (clear t1;at_builtin;refine wpList_plain rfl fun _ hK=>wp_append_rows _ _ rfl Tryz.eB8 (by decide) w2.heap.size _ 1 _ rfl HL.out (w.heap.size+1) _ sl _ rfl HO2a.out (bs_one _) (by omega) (by omega) (by simp) fun v14 w14 how14 hg14 hn14=>hK _ _ ?_;have HB14:=own_grown2 HB2a.out (fun g hg e=>by have h1:=(hlt2 g hg).2;have h2:w2.heap.size=g:=Option.some.inj e;omega) hg14)
  | (clear t2;at_builtin;refine wpList_plain rfl fun _ hK=>wp_append_rows _ _ rfl Tryz.eB8 (by decide) w2.heap.size _ (1+sl) _ rfl how14 (w.heap.size+1) _ bl _ rfl HB14 (bs_one _) (by omega) (by omega) (by have:=hg14.size;simp at this;omega) fun v15 w15 how15 hg15 hn15=>hK _ _ ?_))
 go_ret;have b14:Below w2.heap.size w2 w14:=((Below.refl w2.heap.size w2).alloc nat_le_rfl _).grown hg14 (by simp) (fun y hy=>(HL.lt y hy).1);have b15:Below w2.heap.size w2 w15:=b14.grown hg15 b14.size (fun y hy=>(how14.lt y hy).1);refine⟨S2.below.trans (b15.mono S2.below.size),v15,rfl,?_⟩;rw[hrl,hraw];exact ownsRow_mono (base':=w.heap.size) how15 S2.below.size):P:=h
theorem bk_R16H_rawgo2{P:Prop}(h:P:=by
 go_enter func39,ntmps39;go_upto_region 2 with fail
 have HS0:=S0;obtain⟨WW0,hWW0⟩:=gen_of (w.alloc (.cells pc 52));rw[hWW0]at HS0 k0 ⊢;clear S0 hWW0;exact bk_R16H_rawtail1):P:=h
attribute [local go_sem] Oper.semAt_some
theorem r16_Raw(p:Pk)(h:H3)(w:World)(hin:p.In w h)(hr:rightP p):Calls prog 39 #[.agg (p.cells h).toArray] w (BytesP (rawPk p) w):=by
 have hlen:=hid (bodyP_len hr);have hkr:=rightP_kind hr;have HIN:=hid hin;obtain⟨pc,hpc⟩:=gen_of ((p.cells h).toArray);have kc:Hid (∀W,Blk W w.heap.size pc 52->∀i,W.cell? ⟨w.heap.size,i,none⟩=(p.cells h)[i]?):=hid fun W hb i=>by rw[hb.cell,<-hpc];simp
 have S0:Hid (BoI w pc [] (.slice none 0 0) (w.alloc (.cells pc 52))):=hid (BoI.start bel_refl);rw[hpc];replace hpc:=hid hpc;have ic:Hid ((prog.info? 52).map (·.size)=some pc.size):=hid (by rw[<-hpc.out];exact(by kernel_rfl:(prog.info? 52).map (·.size)=some 24));obtain⟨kd,hkd⟩:=gen_of p.kind;have kq:Hid (∀W,Blk W w.heap.size pc 52->W.cell? ⟨w.heap.size,0,none⟩=some (.int .i64 kd)/\True):=hid fun W hb=>⟨by rw[<-hkd];exact kc _ hb 0,trivial⟩;have k0:=(kq _ S0.pk).1;obtain⟨fz,hfz⟩:=gen_of (((flagN p:Nat):Int):Int);have hf0:0<=fz:=by omega
 have hf1:fz<16:=by have:=flagN_lt hr;omega
 have hk1:1<=kd:=by omega
 have hk2:kd<=14:=by omega
 have hfl:Hid (((flagN p:Nat):Int)=fz):=hid hfz;have hr:=hid hr;replace hkd:=hid hkd;obtain⟨fb,hfb⟩:=gen_of (kd*16+fz);by_cases k3:kd=3
 ·subst k3;have hm:=hr.1;rw[show mayP p=mayPub p from by unfold mayP;rw[if_neg (by have:=hkd.out;omega),if_neg (by have:=hkd.out;omega),if_pos hkd.out]]at hm;unfold mayPub at hm;rw[Bool.and_eq_true,Bool.and_eq_true,Bool.and_eq_true]at hm;have hq:=within_iff.1 hm.1.2;obtain⟨du,hdu⟩:=gen_of p.dup;obtain⟨rt,hrt⟩:=gen_of p.retain;obtain⟨zq,hzq⟩:=gen_of p.qos;have kx:Hid (∀W,Blk W w.heap.size pc 52->W.cell? ⟨w.heap.size,1,none⟩=some (.bool du)/\W.cell? ⟨w.heap.size,3,none⟩=some (.int .i64 zq)/\W.cell? ⟨w.heap.size,2,none⟩=some (.bool rt)):=hid fun W hb=>⟨by rw[<-hdu];exact kc _ hb 1,by rw[<-hzq];exact kc _ hb 3,by rw[<-hrt];exact kc _ hb 2⟩;obtain⟨z1,hz1⟩:=gen_of (((bitN du 8:Nat):Int):Int);obtain⟨z2,hz2⟩:=gen_of (((bitN rt 1:Nat):Int):Int);have y1:0<=z1/\z1<=8:=by have:=bitN_le du 8;omega
  have y2:0<=z2/\z2<=1:=by have:=bitN_le rt 1;omega
  rw[hzq]at hq;have ysum:z1+2*zq+z2=fz:=by rw[<-hfz];unfold flagN;rw[if_pos hkd.out,hdu,hrt,hzq];omega
  have C1:=hid (fun W=>r16_oneN du 8 W);have C2:=hid (fun W=>r16_oneN rt 1 W);rw[hz1]at C1;rw[hz2]at C2;obtain⟨y10,y11⟩:=y1;obtain⟨y20,y21⟩:=y2;obtain⟨yq0,yq1⟩:=hq;clear hz1 hz2 hdu hrt hzq hm hfz;go_enter func39,ntmps39;go_upto_region 4 with fail
  try simp only[PT]
  have SD:=S0.step bel_refl.drew;refine regionQ [(1000,fun w'=>Blk w' w.heap.size pc 52)] (by kernel_rfl) ⟨SD.pk,trivial⟩ fun KQ hKQ=>?_;try simp only[PT]
  obtain⟨WD,hWD⟩:=gen_of ((w.alloc (.cells pc 52)).drew);rw[hWD]at SD ⊢;refine tQ [0] ?_;refine loadQ 1 rfl (by kernel_rfl) (by kernel_rfl) rfl rfl 0 rfl (by kernel_rfl) (.bool du) (fun w' hf=>by(have k0:=(kx _ hf).1;go_simp<;>with_reducible rfl)) ?_;simp only[PT];refine tQ [3] ?_;refine loadQ 4 rfl (by kernel_rfl) (by kernel_rfl) rfl rfl 0 rfl (by kernel_rfl) (.int .i64 zq) (fun w' hf=>by(have k0:=(kx _ hf).2.1;go_simp<;>with_reducible rfl)) ?_;simp only[PT];refine tQ [5,7] ?_;refine loadQ 8 rfl (by kernel_rfl) (by kernel_rfl) rfl rfl 0 rfl (by kernel_rfl) (.bool rt) (fun w' hf=>by(have k0:=(kx _ hf).2.2;go_simp<;>with_reducible rfl)) ?_;simp only[PT];refine sQ 2 fun K hK=>?_;simp only[GO];go_simp;refine(C1 WD).mono ?_;rintro e w1 ⟨rfl,rfl⟩;refine hK _ _ ⟨⟨fun _=>SD.pk,trivial⟩,?_⟩;clear hK K;try simp only[PT]
  refine tQ [6] ?_;refine sQ 9 fun K hK=>?_;simp only[GO];go_simp;refine(C2 WD).mono ?_;rintro e w1 ⟨rfl,rfl⟩;refine hK _ _ ⟨⟨fun _=>SD.pk,trivial⟩,?_⟩;clear hK K;try simp only[PT]
  refine tQ [10,11] ?_;refine dQ (hKQ.out _ _ ?_);clear hKQ KQ;have HS0:=hid SD;obtain⟨WW0,hWW0⟩:=gen_of WD;rw[hWW0]at HS0 ⊢;clear S0 hWW0 hWD SD C1 C2 k0;have hwr:Hid (IntKind.u8.wrap (48+fz)=fb):=hid (by rw[IntKind.wrap_u8];omega);exact bk_R16H_rawtail1
 have e3:(kd==3)=false:=by simpa using k3
 by_cases k6:kd=6\/kd=8\/kd=10
 ·have ef:fz=2:=by rw[<-hfz,flag2 (by have:=hkd.out;omega)];rfl
  rcases k6 with rfl | rfl | rfl
  ·have hwr:Hid (IntKind.u8.wrap (98)=fb):=hid (by rw[IntKind.wrap_u8];omega);exact bk_R16H_rawgo2
  ·have hwr:Hid (IntKind.u8.wrap (130)=fb):=hid (by rw[IntKind.wrap_u8];omega);exact bk_R16H_rawgo2
  skip;have hwr:Hid (IntKind.u8.wrap (162)=fb):=hid (by rw[IntKind.wrap_u8];omega);exact bk_R16H_rawgo2
 have ef:fz=0:=by rw[<-hfz,flag0 (by have:=hkd.out;omega) (by have:=hkd.out;omega)];rfl
 have e6:(kd==6)=false:=by simpa using(show kd≠6 by omega)
 have e8:(kd==8)=false:=by simpa using(show kd≠8 by omega)
 have e10:(kd==10)=false:=by simpa using(show kd≠10 by omega)
 have hwr:Hid (IntKind.u8.wrap (16*kd)=fb):=hid (by rw[IntKind.wrap_u8];omega);exact bk_R16H_rawgo2
end
section
structure GaI (W0:World)(l:List UInt8)(v:Value)(W:World):Prop where
 low:Below W0.heap.size W0 W
 own:W.ownsRow W0.heap.size 5 1 v l.length (bs l)
section
variable {W0:World} {l m:List UInt8} {v v':Value} {W W1 W2:World}
theorem GaI.size(h:GaI W0 l v W):W0.heap.size<=W.heap.size:=h.low.size
theorem GaI.step(h:GaI W0 l v W)(hb:Below W.heap.size W W1):GaI W0 l v W1:=⟨h.low.trans (hb.mono h.size),ownsRow_below h.own hb⟩
theorem GaI.app(h:GaI W0 l v W)(how:W2.ownsRow W0.heap.size 5 1 v' (l.length+m.length) (bs l++bs m))(hg:W.grownBy W2 v.ownBlock):GaI W0 (l++m) v' W2:=
 ⟨h.low.grown hg h.size (fun y hy=>(h.own.lt y hy).1),by rw[List.length_append,bs_app];exact how⟩
theorem GaI.start(W0:World):GaI W0 [] (.slice none 0 0) W0:=⟨Below.refl _ _,World.ownsRow_nil _ _ _ _⟩
theorem GaI.blk(h:GaI W0 l v W){b:Nat}{cs:Array Value}{T:TypeId}(hb:Blk W0 b cs T):Blk W b cs T:=hb.below h.low
theorem GaI.ne(h:GaI W0 l v W){b:Nat}{cs:Array Value}{T:TypeId}(hb:Blk W b cs T)(hT:T≠5):v.ownBlock≠some b:=by
 intro e;obtain⟨-,⟨rfl, -⟩ | ⟨g,cap,cur,rfl, -,hg, -⟩⟩:=h.own
 ·cases e
 cases e;have h1:W.heap[g]?=some (.cells cs T):=hb;rw[h1]at hg;cases hg;exact hT rfl
theorem GaI.kept(h:GaI W0 l v W){b:Nat}{cs:Array Value}{T:TypeId}(hb:Blk W b cs T)(hT:T≠5)(hg:W.grownBy W1 v.ownBlock):Blk W1 b cs T:=hb.keep (hg.block _ hb.lt (Ne.symm (h.ne hb hT)))
theorem ga_app{o:Oper}{a:Act}{K:Act->World->Prop}{Q:Exit->Act->World->Prop}(h:GaI W0 l v W)(s x:Operand)
  (ho:o.op=.call {callee:=.builtin .append,args:=#[s,x],argTypes:=#[22,22]}) (hs:a.eval s=v) (base2:Nat) (u:Value) (hx:a.eval x=u) (hm:W.ownsRow base2 5 1 u m.length (bs m))
  (hl:l.length+m.length<=50000000) (hK:∀v' W',GaI W0 (l++m) v' W'->W.grownBy W' v.ownBlock->K (a.put o.dst v') W'):o.wp prog a W K Q:=
 wp_append_rows s x ho Tryz.eB8 (by decide) W0.heap.size v l.length (bs l) hs h.own base2 u m.length (bs m) hx hm (bs_one _) (by omega) (by omega) h.size fun v' w' how hg _=>hK v' w' (h.app how hg) hg
end
theorem bs_num1(n:Nat)(h:n<256):bs (numB 1 n)=[.int .u8 (n:Int)]:=by unfold bs numB;simp[numB];omega
theorem lit_num(n:Nat)(h:n<256)(W:World):(W.alloc (.cells #[.int .u8 (n:Int)] 5)).ownsRow W.heap.size 5 1 (.slice (some ⟨W.heap.size,0,none⟩) 1 1) (numB 1 n).length (bs (numB 1 n)):=by rw[numB_len,bs_num1 n h];exact lit1 n W
theorem partB_len{t:Tn}(h:mayT t):(partB pkC t).length<=10002:=by
 unfold mayT at h;by_cases k2:t.kind=2
 ·rw[if_pos k2]at h;rw[partB_2 k2,txtB_len];have:=rawPk_len h.2;show 2+(rawPk t.pk).length<=10002;omega
 rw[if_neg k2]at h;by_cases k3:t.kind=3
 ·rw[if_pos k3]at h;rw[partB_3 k3,txtB_len];omega
 rw[if_neg k3]at h;by_cases k7:t.kind=7
 ·rw[partB_7 k7,List.length_append,numB_len,numB_len];omega
 rw[if_neg k7]at h;by_cases k8:t.kind=8
 ·rw[if_pos k8]at h;rw[partB_8 k8,List.length_append,numB_len];have:=flat_le (fun z:Int=>numB 1 z.toNat) 1 t.picks (fun x _=>by rw[numB_len];exact Nat.le_refl _);omega
 rw[partB_b ⟨k2,k3,k7,k8⟩];simp
theorem turnB_len{t:Tn}(h:mayT t):(turnB pkC t).length<=10005:=by unfold turnB;rw[List.length_append,List.length_append,numB_len,numB_len];have:=partB_len h;omega
theorem rawS_len{s:Sc}(h:rightS s):(rawS pkC s).length<=21000000:=by
 unfold rawS;rw[List.length_append,List.length_append,txtB_len];have h1:((headL s.cf s.pages).flatMap (fun z=>numB 2 z.toNat)).length<=7*2:=flat_le _ 2 _ (fun x _=>by rw[numB_len];exact Nat.le_refl _);have h2:=flat_le (turnB pkC) 10005 s.ts (fun t ht=>turnB_len (h.2.2.2 t ht).1);have h3:s.cf.secret.length<=1000:=by have:=h.1;unfold cfOK at this;have:=this.2.2.2.2.2.2;omega
 have h4:=h.2.2.1;have h5:s.ts.length*10005<=2000*10005:=Nat.mul_le_mul_right _ h4;omega
end
section
attribute [local go_sem] Oper.semAt_some
theorem r28_Raw(s:ScC)(w:World)(hs:s.In w)(h:rightS s.sc):Calls prog 16 #[.agg s.cells.toArray] w (BytesP (rawS pkC s.sc) w):=by
 have hlen:=hid (rawS_len h);have HR:=hid h;have HS:=hid hs;obtain⟨sv,hsv⟩:=gen_of s.cells.toArray;have b1:Below w.heap.size w (w.alloc (.cells sv 30)):=bel_refl.alloc nat_le_rfl _;have hB:Blk (w.alloc (.cells sv 30)) w.heap.size sv 30:=Blk.new _ _ _;have kc:Hid (∀W,Blk W w.heap.size sv 30->W.cell? ⟨w.heap.size,7,none⟩=some (.int .i64 s.pages)/\W.cell? ⟨w.heap.size,8,none⟩=some (.slice s.ht.a s.ht.n s.ht.c)):=hid fun W hb=>by rw[hb.cell,hb.cell,<-hsv];exact⟨rfl,rfl⟩
 have hm:(w.alloc (.cells sv 30)).rangeAt w.heap.size 0 s.cf.cl:=hB.mid [] s.cf.cl [.int .i64 s.pages,.slice s.ht.a s.ht.n s.ht.c] (by rw[<-hsv];rfl);rw[hsv];replace hsv:=hid hsv;obtain⟨zC,hzC⟩:∃z:Array Value,z=#[.int .i64 0,.int .i64 0,.int .i64 0,.int .i64 0,.int .i64 0,.int .i64 0,.string ⟨#[]⟩]:=⟨_,rfl⟩;have B2:Blk ((w.alloc (.cells sv 30)).alloc (.cells zC 27)) (w.heap.size+1) zC 27:=by have:=Blk.new (w.alloc (.cells sv 30)) zC 27;simpa using this
 have bz:Hid (Below w.heap.size w ((w.alloc (.cells sv 30)).alloc (.cells zC 27))/\Blk ((w.alloc (.cells sv 30)).alloc (.cells zC 27)) w.heap.size sv 30):=hid ⟨b1.alloc (by simp) _,hB.alloc _⟩;subst hzC;have cone:Hid (∀v∈s.cf.cl.toArray.toList,v.oneCell'=true):=hid (by simp[CfV.cl,Value.oneCell']);clear h hs b1 hB;go_enter func16,ntmps16;have tok:=hid trivial;go_upto_region 2 with(first
  | (clear tok;refine wLm 27 rfl rfl hm underlying27 ?_)
  | (refine wS 27 7 rfl (w.heap.size+1) _ s.cf.cl.toArray rfl rfl B2 rfl rfl cone.out ?_;intro w2 hw2 hr2))
 have P2:Hid (Below w.heap.size w w2):=hid (bz.1.trans (hr2.below (by simp;omega) (by simp)));have X2:Hid (Blk w2 w.heap.size sv 30):=hid (bz.2.keepW hr2 (by simp));have sz2:Hid (w.heap.size+2<=w2.heap.size):=hid (by have:=hr2.size;simpa using this);obtain⟨k7,k8⟩:=kc _ X2.out;have c0:w2.cell? ⟨w.heap.size+1,0,none⟩=some (.int .i64 s.cf.window):=hw2.cell 0;have c1:w2.cell? ⟨w.heap.size+1,1,none⟩=some (.int .i64 s.cf.room):=hw2.cell 1;have c2:w2.cell? ⟨w.heap.size+1,2,none⟩=some (.int .i64 s.cf.inbox):=hw2.cell 2;have c3:w2.cell? ⟨w.heap.size+1,3,none⟩=some (.int .i64 s.cf.subs):=hw2.cell 3;have c4:w2.cell? ⟨w.heap.size+1,4,none⟩=some (.int .i64 s.cf.sessions):=hw2.cell 4;have c5:w2.cell? ⟨w.heap.size+1,5,none⟩=some (.int .i64 s.cf.retained):=hw2.cell 5;have C2:=hid hw2;clear hm B2 bz hw2 hr2;go_wp2_with fail;obtain⟨hl,hhl⟩:=gen_of (headL s.cf s.pages);obtain⟨W0,hW0⟩:=gen_of (w2.alloc (.cells #[.int .i64 s.cf.window,.int .i64 s.cf.room,.int .i64 s.cf.inbox,.int .i64 s.cf.subs,.int .i64 s.cf.sessions,.int .i64 s.cf.retained,.int .i64 s.pages] 3));rw[hW0];have P0:Hid (Below w.heap.size w W0):=hid (by rw[<-hW0];exact P2.alloc P2.size _);have X0:Hid (Blk W0 w.heap.size sv 30):=hid (by rw[<-hW0];exact X2.alloc _);have C0:Hid (Blk W0 (w.heap.size+1) s.cf.cl.toArray 27):=hid (by rw[<-hW0];exact C2.alloc _)
 have A0:Hid (Blk W0 w2.heap.size #[.int .i64 s.cf.window,.int .i64 s.cf.room,.int .i64 s.cf.inbox,.int .i64 s.cf.subs,.int .i64 s.cf.sessions,.int .i64 s.cf.retained,.int .i64 s.pages] 3):=hid (by rw[<-hW0];exact Blk.new _ _ _);obtain⟨ab,hab⟩:=gen_of w2.heap.size;rw[hab]at A0 ⊢;have hl7:Hid (hl.length=7):=hid (by rw[<-hhl];rfl);have HAr:Hid (∀W,Below W0.heap.size W0 W->∀(k:Nat)(z:Int),hl[k]?=some z->W.cell? ⟨ab,k,none⟩=some (.int .i64 z)):=hid (fun W hb k z hz=>by
  rw[(A0.below hb).cell];have e:(#[.int .i64 s.cf.window,.int .i64 s.cf.room,.int .i64 s.cf.inbox,.int .i64 s.cf.subs,.int .i64 s.cf.sessions,.int .i64 s.cf.retained,.int .i64 s.pages]:Array Value)=(hl.map (fun z=>Value.int .i64 z)).toArray:=by rw[<-hhl];rfl
  rw[e];simp[hz])
 have hall:Hid (∀z∈hl,0<=z/\z<=65535):=hid (by rw[<-hhl];obtain⟨h1,h2, -, -⟩:=HR.out;unfold cfOK at h1;have e1:s.sc.cf=s.cf:=rfl;have e2:s.sc.pages=s.pages:=rfl;rw[e1]at h1;rw[e2]at h2;intro z hz;simp[headL]at hz;omega)
 have hhl:=hid hhl;clear c0 c1 c2 c3 c4 c5 k7 k8 C2 X2 P2 sz2 hab hW0;go_loopw [5,6] (fun v i wr=>∃k:Nat,i=.int .i64 k/\k<=7/\Hid (GaI W0 ((hl.take k).flatMap (fun z=>numB 2 z.toNat)) v wr)) (fun _ i _=>7-(intOf i).toNat)
 case atStart=>exact⟨0,by go_num,by omega,hid (GaI.start W0)⟩
 case round=>
  obtain⟨k,rfl,hk7,hG⟩:=hrel;obtain⟨wx,hwx⟩:∃W,W=wr:=⟨_,rfl⟩;subst hwx;by_cases hk:k<7
  ·obtain⟨z,hz⟩:∃z,hl[k]?=some z:=⟨_,List.getElem?_eq_getElem (by rw[hl7];exact hk)⟩;have hz5:=hall z (List.mem_of_getElem? hz);obtain⟨zn,rfl⟩:=Int.eq_ofNat_of_zero_le hz5.1;have kz:=HAr _ hG.low k _ hz;have CT:=hid (r28_two zn wx (by omega));have hz:=hid hz;clear hz5;go_wp2_with fail;refine CT.mono ?_;rintro e w5 ⟨u,rfl,hu,hb5⟩;have G5:=hid (hG.step hb5);obtain⟨au,cu,rfl⟩:=own_slice hu;have hu:=hid hu;have hle:Hid (((hl.take k).flatMap (fun z=>numB 2 z.toNat)).length+(numB 2 zn).length<=50000000):=hid (by have h1:=flat_le (fun z:Int=>numB 2 z.toNat) 2 (hl.take k) (fun x _=>by rw[numB_len];exact Nat.le_refl _);rw[List.length_take]at h1;rw[numB_len];omega)
   clear hb5 kz CT;go_wp2_with (at_builtin;refine wpList_plain rfl fun _ hK=>ga_app (m:=numB 2 zn) G5.out _ _ rfl rfl wx.heap.size _ rfl (by rw[numB_len];exact hu.out) hle.out fun v6 w6 G6 g6=>hK _ _ ?_);exact⟨⟨k+1,by go_num,by omega,hid (by rw[flat_take_succ _ _ _ hz.out];exact G6)⟩,by simp[intOf];omega⟩
  obtain rfl:k=7:=by omega
  have hG:Hid (GaI W0 (hl.flatMap (fun z=>numB 2 z.toNat)) _ wx):=hid (by
   have h9:=hG.out
   rwa [List.take_of_length_le (by rw[hl7];exact Nat.le_refl _)]at h9)
  clear HAr hall;have c6:wx.cell? ⟨w.heap.size+1,6,none⟩=some (.string ⟨s.cf.secret.toArray⟩):=(hG.blk C0.out).cell 6;have CX:=hid (r28_text s.cf.secret wx (by have:=HR.1;unfold cfOK at this;have:=this.2.2.2.2.2.2;have e1:s.sc.cf=s.cf:=rfl;rw[e1]at this;omega));go_wp2_with fail
  refine CX.mono ?_;rintro e w5 ⟨u,rfl,hu,hb5⟩;have G5:=hid (hG.step hb5);obtain⟨au,cu,rfl⟩:=own_slice hu;have hu:=hid hu;have hle:Hid ((hl.flatMap (fun z=>numB 2 z.toNat)).length+(txtB s.cf.secret).length<=50000000):=hid (by have h1:=hlen.out;unfold rawS at h1;have e1:s.sc.cf=s.cf:=rfl;have e2:s.sc.pages=s.pages:=rfl;rw[e1,e2,hhl.out,List.length_append,List.length_append]at h1;omega)
  clear hb5 c6 CX;go_wp2_with (at_builtin;refine wpList_plain rfl fun _ hK=>ga_app (m:=txtB s.cf.secret) G5.out _ _ rfl rfl wx.heap.size _ rfl hu.out hle.out fun v6 w6 G6 g6=>hK _ _ ?_);have hpre:Hid (hl.flatMap (fun z=>numB 2 z.toNat)++txtB s.cf.secret=preB pkC s.sc 0):=hid (by unfold preB headB;have e1:s.sc.cf=s.cf:=rfl;have e2:s.sc.pages=s.pages:=rfl;rw[e1,e2,hhl.out];simp)
  rw[hpre]at G6;have G6:=hid G6;clear hG G5 hu hle hpre;obtain⟨n,hn⟩:=gen_of s.ht.n;rw[hn]at kc;have hlenT:Hid (s.ts.length=n):=hid (HS.t.len.trans hn);have hn2:n<=2000:=by have h9:=HR.2.2.1;rw[show s.sc.ts.length=s.ts.length by simp[ScC.sc],hlenT.out]at h9;exact h9
  have hn:=hid hn;go_loopw [5,7] (fun v i wr=>∃k:Nat,i=.int .i64 k/\k<=n/\Hid (GaI W0 (preB pkC s.sc k) v wr)) (fun _ i _=>n-(intOf i).toNat)
  case atStart=>exact⟨0,by go_num,Nat.zero_le _,G6⟩
  case round=>
   obtain⟨k,rfl,hkn,hG⟩:=hrel;obtain⟨wy,hwy⟩:∃W,W=wr:=⟨_,rfl⟩;subst hwy;have k8:=(kc _ (hG.blk X0.out)).2;have BW:=hid (P0.trans (hG.low.mono P0.size));by_cases hjm:k<n
   ·obtain⟨x,hx⟩:∃x,s.ts[k]?=some x:=⟨_,List.getElem?_eq_getElem (by rw[hlenT];exact hjm)⟩;obtain⟨g,off,ha,hrg⟩:=HS.t.range hx;have hr1:=hrg wy BW.out;rw[ha]at k8;have HX:=hid ((HS.each x (List.mem_of_getElem? hx)).below BW.out);have hrt:Hid (rightT x.t):=hid (HR.2.2.2 x.t (List.mem_map_of_mem (List.mem_of_getElem? hx)));have hsucc:Hid (preB pkC s.sc (k+1)=preB pkC s.sc k++turnB pkC x.t):=hid (preB_succ pkC s.sc k x.t (by show(s.ts.map TnC.t)[k]?=_;rw[List.getElem?_map,hx];rfl));obtain⟨xc,hxc⟩:=gen_of x.cells;rw[hxc]at hr1;have ixc:Hid ((prog.info? 55).map (·.size)=some xc.length):=hid (by rw[<-hxc];exact(by kernel_rfl:(prog.info? 55).map (·.size)=some 30));have sx:Hid (xc.toArray.size=30):=hid (by rw[<-hxc];rfl);have ox:Hid (∀v∈xc.toArray.toList,v.oneCell'=true):=hid (by rw[<-hxc];exact Tn.one _ _ _);have tok:=hid trivial;have hx:=hid hx;have hxc:=hid hxc;clear hrg ha;go_upto_region 13 with(first
     | (clear tok;refine wLm 55 rfl rfl hr1 underlying55 ?_ rfl rfl ixc.out)
     | (refine wS 55 30 rfl _ _ _ rfl rfl (Blk.new _ _ _) sx.out rfl ox.out ?_;intro w5 hw5 hr5))
    have bn:Below wy.heap.size wy w5:=(bel_refl.alloc nat_le_rfl _).trans (hr5.below (by simp) (by simp));have G5:=hid (hG.step bn);obtain⟨tb,htb⟩:=gen_of wy.heap.size;rw[htb]at hw5 ⊢;obtain⟨kz,hkz⟩:=gen_of x.t.kind;obtain⟨kn,hkn2⟩:=Int.eq_ofNat_of_zero_le (show 0<=kz by have:=rightT_kind hrt.out;omega);obtain⟨cn,hcn2⟩:=Int.eq_ofNat_of_zero_le (show 0<=x.t.conn from(rightT_conn hrt.out).1);have hkn8:kn<=8:=by have:=(rightT_kind hrt.out).2;omega
    have hcn5:cn<=65535:=by have:=(rightT_conn hrt.out).2;omega
    have hB:kn<256:=by omega
    have hwk:IntKind.u8.wrap (kn:Int)=(kn:Int):=wrap_u8 kn hB;have kt0:Hid (∀W,Blk W tb xc.toArray 55->W.cell? ⟨tb,0,none⟩=some (.int .i64 (kn:Int))/\W.cell? ⟨tb,1,none⟩=some (.int .i64 (cn:Int))):=hid fun W hb=>by
     refine⟨?_,?_⟩<;>rw[hb.cell,<-hxc.out]
     ·show some (Value.int .i64 x.t.kind)=_;rw[hkz,hkn2]
     show some (Value.int .i64 x.t.conn)=_;rw[hcn2]
    obtain⟨L,hL⟩:=gen_of (preB pkC s.sc k);have hLn:Hid (L.length<=21000000):=hid (by rw[<-hL];exact Nat.le_trans (preB_le pkC s.sc k) hlen.out);rw[hL]at hsucc G5;have hnext:Hid (preB pkC s.sc (k+1)=(L++(numB 1 kn++numB 2 cn))++partB pkC x.t):=hid (by rw[hsucc];unfold turnB;rw[hkz,hkn2,hcn2];simp)
    replace hL:=hid hL;replace hkz:=hid hkz;replace hkn2:=hid hkn2;replace hcn2:=hid hcn2;have TB:=hid hw5;clear hw5 hr5 bn hG k8 hr1 htb hsucc;try simp only[PT]
    go_cut [5]from 61 to 126 (fun s5 wx=>Hid (GaI W0 (L++(numB 1 kn++numB 2 cn)) s5 wx)/\Hid (Blk wx tb xc.toArray 55))
    case first=>
     have SD:=hid (G5.step bel_refl.drew);have TD:=hid (TB.below bel_refl.drew);refine regionQ [(1000,fun w'=>Blk w' tb xc.toArray 55)] (by kernel_rfl) ⟨TD.out,trivial⟩ fun KQ hKQ=>?_;try simp only[PT]
     obtain⟨WD,hWD⟩:=gen_of w5.drew;rw[hWD]at SD TD ⊢;refine tQ [0,1] ?_;refine loadQ 2 rfl (by kernel_rfl) (by kernel_rfl) rfl rfl 0 rfl (by kernel_rfl) (.int .i64 (kn:Int)) (fun w' hf=>by(have k0:=(kt0 _ hf).1;go_simp<;>with_reducible rfl)) ?_;simp only[PT];refine tQ [3,6] ?_;refine loadQ 7 rfl (by kernel_rfl) (by kernel_rfl) rfl rfl 0 rfl (by kernel_rfl) (.int .i64 (cn:Int)) (fun w' hf=>by(have k0:=(kt0 _ hf).2;go_simp<;>with_reducible rfl)) ?_;simp only[PT];refine sQ 4 fun K hK=>?_;simp only[GO];go_simp;have bal:=(Below.refl WD.heap.size WD).alloc nat_le_rfl (.cells #[.int .u8 (kn:Int)] 5);have GA:=hid (SD.step bal);have TA:=hid (TD.below bal);have LA:=hid (lit_num kn hB WD);refine hK _ _ ⟨⟨fun _=>TA.out,trivial⟩,?_⟩;clear hK K;try simp only[PT]
     obtain⟨wa,hwa⟩:=gen_of (WD.alloc (.cells #[.int .u8 (kn:Int)] 5));rw[hwa]at GA TA LA ⊢;refine sQ 5 fun K hK=>?_;simp only[GO];refine ga_app (m:=numB 1 kn) GA.out _ _ rfl rfl WD.heap.size _ rfl LA.out (by have:=hLn.out;rw[numB_len];omega) fun v3 w3 G3 g3=>?_;have T3:=hid (GA.kept TA.out (by decide) g3);replace G3:=hid G3;refine hK _ _ ⟨⟨fun _=>T3.out,trivial⟩,?_⟩;clear hK K;try simp only[PT]
     refine sQ 8 fun K hK=>?_;simp only[GO];go_simp;refine(r28_two cn w3 hcn5).mono ?_;rintro e w4 ⟨u,rfl,hu,hb4⟩;replace hu:Hid (w4.ownsRow w3.heap.size 5 1 u (numB 2 cn).length (bs (numB 2 cn))):=hid (by rw[numB_len];exact hu);have G4:=hid (G3.step hb4);have T4:=hid (T3.below hb4);refine hK _ _ ⟨⟨fun _=>T4.out,trivial⟩,?_⟩;clear hK K;try simp only[PT]
     refine sQ 9 fun K hK=>?_;simp only[GO];refine ga_app (m:=numB 2 cn) G4.out _ _ rfl rfl w3.heap.size _ rfl hu.out (by have:=hLn.out;rw[List.length_append,numB_len,numB_len];omega) fun v6 w6 G6 g6=>?_;have T9:=hid (G4.kept T4.out (by decide) g6);have G9:Hid (GaI W0 (L++(numB 1 kn++numB 2 cn)) v6 w6):=hid (by rw[<-List.append_assoc];exact G6);refine hK _ _ ⟨⟨fun _=>T9.out,trivial⟩,?_⟩;clear hK K G6 g6;try simp only[PT]
     refine tQ [10] ?_;refine dQ (hKQ.out _ _ ?_);clear hKQ KQ;go_wp2;go_meet
     case rel=>exact⟨G9,T9⟩
    case rest=>
     obtain⟨hG6,hT6⟩:=hcut;obtain⟨wq,hwq⟩:=gen_of wc;rw[hwq]at hG6 hT6 ⊢;obtain⟨L2,hL2⟩:=gen_of (L++(numB 1 kn++numB 2 cn));rw[hL2]at hG6 hnext;have hL2n:Hid (L2.length<=21000005):=hid (by rw[<-hL2];have:=hLn.out;simp only[List.length_append,numB_len];omega);have hPn:Hid ((partB pkC x.t).length<=10002):=hid (partB_len hrt.1);have hBq:=hid (P0.trans (hG6.out.low.mono P0.size));have HXq:=hid ((HS.each x (List.mem_of_getElem? hx.out)).below hBq.out);have ktz:Hid (∀W,Blk W tb xc.toArray 55->W.cell? ⟨tb,0,none⟩=some (.int .i64 kz)/\W.cell? ⟨tb,26,none⟩=some (.string ⟨x.t.bytes.toArray⟩)/\W.cell? ⟨tb,27,none⟩=some (.int .i64 x.t.arm)/\W.cell? ⟨tb,28,none⟩=some (.int .i64 x.t.n)/\W.cell? ⟨tb,29,none⟩=some (.slice x.hp.a x.hp.n x.hp.c)):=hid fun W hb=>by
      refine⟨?_,?_,?_,?_,?_⟩<;>rw[hb.cell,<-hxc.out]
      ·show some (Value.int .i64 x.t.kind)=_;rw[hkz.out]
      all_goals rfl
     replace hL2:=hid hL2;clear hwq hL G5 TB hLn kt0 HX BW hB hwk hcn5 hkn8 sx ox ixc kc;by_cases k2:kz=2
     ·have k0:wq.cell? ⟨tb,0,none⟩=some (.int .i64 2):=by rw[(ktz _ hT6.out).1,k2]
      have hkk:Hid (x.t.kind=2):=hid (by rw[hkz.out,k2]);have hrp:Hid (rightP x.t.pk):=hid (by have h9:=hrt.1;unfold mayT at h9;rw[if_pos hkk.out]at h9;exact h9.2);have hpart:Hid (partB pkC x.t=txtB (rawPk x.t.pk)):=hid (partB_2 hkk.out);have ta:wq.rangeAt tb 2 (x.t.pk.cells x.h):=hT6.out.mid [.int .i64 x.t.kind,.int .i64 x.t.conn] (x.t.pk.cells x.h) [.string ⟨x.t.bytes.toArray⟩,.int .i64 x.t.arm,.int .i64 x.t.n,.slice x.hp.a x.hp.n x.hp.c] (by rw[<-hxc.out];rfl);have CB:=hid (r16_Raw x.t.pk x.h wq HXq.pk hrp.out);obtain⟨pc,hpc⟩:=gen_of (x.t.pk.cells x.h);have ic:Hid ((prog.info? 52).map (·.size)=some pc.length):=hid (by rw[<-hpc];exact(by kernel_rfl:(prog.info? 52).map (·.size)=some 24));rw[hpc]at ta CB;obtain⟨lr,hlr⟩:=gen_of (rawPk x.t.pk);have hlr5:Hid (lr.length<=5005):=hid (by rw[<-hlr];exact rawPk_len hrp.out);rw[hlr]at CB hpart;replace hpc:=hid hpc;replace hlr:=hid hlr;clear ktz k2;go_wp2_with (refine wLm 52 rfl rfl ta underlying52 ?_ rfl rfl ic.out);refine CB.mono ?_;rintro e w8 ⟨hb8,v8,rfl,ho8⟩;obtain⟨nr,hnr⟩:=gen_of lr.length;rw[hnr]at ho8 hlr5;obtain⟨a8,c8,rfl,hr8⟩:=RowAt.of_own ho8;have q8:=run_str hr8;have CX:=hid (r28_text lr w8 (by have:=hlr5.out;omega));have G8:=hid (hG6.out.step hb8);replace hnr:=hid hnr;clear ta CB hb8 ho8 hr8 k0;go_wp2_with fail;refine CX.mono ?_;rintro e w9 ⟨u,rfl,hu,hb9⟩;have G9:=hid (G8.step hb9)
      have hu:=hid hu;clear q8 CX hb9;go_wp2_with (at_builtin;refine wpList_plain rfl fun _ hK=>ga_app (m:=txtB lr) G9.out _ _ rfl rfl w8.heap.size _ rfl hu.out (by have:=hL2n.out;have:=hPn.out;rw[hpart]at this;omega) fun v6 w6 G6 g6=>hK _ _ ?_);exact⟨⟨k+1,by go_num,by omega,hid (by rw[hnext,hpart];exact G6)⟩,by simp[intOf];omega⟩
     by_cases k3:kz=3
     ·have k0:wq.cell? ⟨tb,0,none⟩=some (.int .i64 3):=by rw[(ktz _ hT6.out).1,k3]
      have k26:=(ktz _ hT6.out).2.1;have hkk:Hid (x.t.kind=3):=hid (by rw[hkz.out,k3]);have hpart:Hid (partB pkC x.t=txtB x.t.bytes):=hid (partB_3 hkk.out);obtain⟨lr,hlr⟩:=gen_of x.t.bytes;have hlr5:Hid (lr.length<=10000):=hid (by rw[<-hlr];have h9:=hrt.1;unfold mayT at h9;rw[if_neg (by have:=hkk.out;omega),if_pos hkk.out]at h9;exact h9.2);rw[hlr]at hpart k26;replace hlr:=hid hlr;have CX:=hid (r28_text lr wq (by have:=hlr5.out;omega));clear ktz k3 k2;go_wp2_with fail;refine CX.mono ?_;rintro e w9 ⟨u,rfl,hu,hb9⟩;have G9:=hid (hG6.out.step hb9);have hu:=hid hu;clear CX hb9 k0 k26;go_wp2_with (at_builtin;refine wpList_plain rfl fun _ hK=>ga_app (m:=txtB lr) G9.out _ _ rfl rfl wq.heap.size _ rfl hu.out (by have:=hL2n.out;have:=hPn.out;rw[hpart]at this;omega) fun v6 w6 G6 g6=>hK _ _ ?_);exact⟨⟨k+1,by go_num,by omega,hid (by rw[hnext,hpart];exact G6)⟩,by simp[intOf];omega⟩
     by_cases k7:kz=7
     ·have k0:wq.cell? ⟨tb,0,none⟩=some (.int .i64 7):=by rw[(ktz _ hT6.out).1,k7]
      have hkk:Hid (x.t.kind=7):=hid (by rw[hkz.out,k7]);have hmy:(0<=x.t.arm/\x.t.arm<=2)/\ -1<=x.t.n/\x.t.n<65535:=by have h9:=hrt.1;have:=hkk.out;unfold mayT at h9;rw[if_neg (by omega),if_neg (by omega),if_pos hkk.out]at h9;exact h9
      obtain⟨an,han⟩:=Int.eq_ofNat_of_zero_le hmy.1.1;obtain⟨mn,hmn⟩:=Int.eq_ofNat_of_zero_le (show 0<=x.t.n+1 by omega);obtain⟨zn,hzn⟩:=gen_of x.t.n;rw[hzn]at hmn hmy;obtain⟨⟨-,ha2⟩,hz1,hz2⟩:=hmy;have hB:an<256:=by omega
      have hwk:IntKind.u8.wrap (an:Int)=(an:Int):=wrap_u8 an hB;have hcm:mn<=65535:=by omega
      have hpart:Hid (partB pkC x.t=numB 1 an++numB 2 mn):=hid (by rw[partB_7 hkk.out,han,hzn,hmn];rfl);have kt7:Hid (∀W,Blk W tb xc.toArray 55->W.cell? ⟨tb,27,none⟩=some (.int .i64 (an:Int))/\W.cell? ⟨tb,28,none⟩=some (.int .i64 zn)):=hid fun W hb=>⟨by rw[(ktz W hb).2.2.1,han],by rw[(ktz W hb).2.2.2.1,hzn]⟩;replace han:=hid han;replace hzn:=hid hzn;clear ktz k7 k3 k2;go_upto_region 20 with fail;try simp only[PT]
      have SD:=hid (hG6.out.step bel_refl.drew);have TD:=hid (hT6.out.below bel_refl.drew);refine regionQ [(1000,fun w'=>Blk w' tb xc.toArray 55)] (by kernel_rfl) ⟨TD.out,trivial⟩ fun KQ hKQ=>?_;try simp only[PT]
      obtain⟨WD,hWD⟩:=gen_of wq.drew;rw[hWD]at SD TD ⊢;refine tQ [0,1] ?_;refine loadQ 2 rfl (by kernel_rfl) (by kernel_rfl) rfl rfl 0 rfl (by kernel_rfl) (.int .i64 (an:Int)) (fun w' hf=>by(have k0:=(kt7 _ hf).1;go_simp<;>with_reducible rfl)) ?_;simp only[PT];refine tQ [3,6] ?_;refine loadQ 7 rfl (by kernel_rfl) (by kernel_rfl) rfl rfl 0 rfl (by kernel_rfl) (.int .i64 zn) (fun w' hf=>by(have k0:=(kt7 _ hf).2;go_simp<;>with_reducible rfl)) ?_;simp only[PT];refine tQ [8] ?_;replace hmn:=hid hmn;refine sQ 4 fun K hK=>?_;simp only[GO];go_simp;have bal:=(Below.refl WD.heap.size WD).alloc nat_le_rfl (.cells #[.int .u8 (an:Int)] 5);have GA:=hid (SD.step bal);have TA:=hid (TD.below bal);have LA:=hid (lit_num an hB WD);refine hK _ _ ⟨⟨fun _=>TA.out,trivial⟩,?_⟩;clear hK K;try simp only[PT]
      obtain⟨wa,hwa⟩:=gen_of (WD.alloc (.cells #[.int .u8 (an:Int)] 5));rw[hwa]at GA TA LA ⊢;refine sQ 5 fun K hK=>?_;simp only[GO];refine ga_app (m:=numB 1 an) GA.out _ _ rfl rfl WD.heap.size _ rfl LA.out (by have:=hL2n.out;rw[numB_len];omega) fun v3 w3 G3 g3=>?_;have T3:=hid (GA.kept TA.out (by decide) g3);replace G3:=hid G3;refine hK _ _ ⟨⟨fun _=>T3.out,trivial⟩,?_⟩;clear hK K;try simp only[PT]
      refine sQ 9 fun K hK=>?_;simp only[GO];go_simp;refine(r28_two mn w3 hcm).mono ?_;rintro e w4 ⟨u,rfl,hu,hb4⟩;replace hu:Hid (w4.ownsRow w3.heap.size 5 1 u (numB 2 mn).length (bs (numB 2 mn))):=hid (by rw[numB_len];exact hu);have G4:=hid (G3.step hb4);have T4:=hid (T3.below hb4);refine hK _ _ ⟨⟨fun _=>T4.out,trivial⟩,?_⟩;clear hK K;try simp only[PT]
      refine sQ 10 fun K hK=>?_;simp only[GO];refine ga_app (m:=numB 2 mn) G4.out _ _ rfl rfl w3.heap.size _ rfl hu.out (by have:=hL2n.out;rw[List.length_append,numB_len,numB_len];omega) fun v6 w6 G6 g6=>?_;have T9:=hid (G4.kept T4.out (by decide) g6);have G9:Hid (GaI W0 (L2++(numB 1 an++numB 2 mn)) v6 w6):=hid (by rw[<-List.append_assoc];exact G6);refine hK _ _ ⟨⟨fun _=>T9.out,trivial⟩,?_⟩;clear hK K G6 g6;try simp only[PT]
      refine tQ [11] ?_;refine dQ (hKQ.out _ _ ?_);clear hKQ KQ;go_wp2_with fail;exact⟨⟨k+1,by go_num,by omega,hid (by rw[hnext,hpart];exact G9.out)⟩,by simp[intOf];omega⟩
     by_cases k8:kz=8
     ·have k0:wq.cell? ⟨tb,0,none⟩=some (.int .i64 8):=by rw[(ktz _ hT6.out).1,k8]
      have hkk:Hid (x.t.kind=8):=hid (by rw[hkz.out,k8]);have hmy:Hid (x.t.picks.length<=255/\∀z∈x.t.picks,0<=z/\z<=255):=hid (by have h9:=hrt.1;have:=hkk.out;unfold mayT at h9;rw[if_neg (by omega),if_neg (by omega),if_neg (by omega),if_pos hkk.out]at h9;exact h9)
      obtain⟨pn,hpn⟩:=gen_of x.hp.n;have hpl:Hid (x.t.picks.length=pn):=hid (HXq.p.len.trans hpn);have hp5:pn<=255:=by have:=hmy.1;have:=hpl.out;omega
      have hB:pn<256:=by omega
      have hwk:IntKind.u8.wrap (pn:Int)=(pn:Int):=wrap_u8 pn hB;have hpart:Hid (partB pkC x.t=numB 1 pn++x.t.picks.flatMap (fun z=>numB 1 z.toNat)):=hid (by rw[partB_8 hkk.out,hpl]);have kt8:Hid (∀W,Blk W tb xc.toArray 55->W.cell? ⟨tb,29,none⟩=some (.slice x.hp.a pn x.hp.c)):=hid fun W hb=>by rw[(ktz W hb).2.2.2.2,hpn]
      replace hpn:=hid hpn;have k29:=kt8 _ hT6.out;have bal:=(Below.refl wq.heap.size wq).alloc nat_le_rfl (.cells #[.int .u8 (pn:Int)] 5);have GA:=hid (hG6.out.step bal);have TA:=hid (hT6.out.below bal);have LA:=hid (lit_num pn hB wq);clear ktz k8 k7 k3 k2 bal;go_wp2_with (at_builtin;refine wpList_plain rfl fun _ hK=>ga_app (m:=numB 1 pn) GA.out _ _ rfl rfl wq.heap.size _ rfl LA.out (by have:=hL2n.out;rw[numB_len];omega) fun v6 w6 G6 g6=>hK _ _ ?_;have T6:=hid (GA.kept TA.out (by decide) g6);replace G6:=hid G6;clear g6);clear k0 k29 GA TA LA;go_loopw [5,9] (fun v i wr=>∃j:Nat,i=.int .i64 j/\j<=pn/\Hid (GaI W0 (L2++(numB 1 pn++(x.t.picks.take j).flatMap (fun z=>numB 1 z.toNat))) v wr)/\Hid (Blk wr tb xc.toArray 55)) (fun _ i _=>pn-(intOf i).toNat)
      case atStart=>exact⟨0,by go_num,Nat.zero_le _,by simpa using G6,T6⟩
      case round=>
       obtain⟨j,rfl,hjn,hG7,hT7⟩:=hrel;obtain⟨wz,hwz⟩:∃W,W=wr:=⟨_,rfl⟩;subst hwz;have k29:=kt8 _ hT7.out;by_cases hjm:j<pn
       ·obtain⟨z,hz⟩:∃z,x.t.picks[j]?=some z:=⟨_,List.getElem?_eq_getElem (by rw[hpl];exact hjm)⟩;have hz5:=hmy.2 z (List.mem_of_getElem? hz);obtain⟨zn,rfl⟩:=Int.eq_ofNat_of_zero_le hz5.1;have hZ:zn<256:=by omega
        have hwz:IntKind.u8.wrap (zn:Int)=(zn:Int):=wrap_u8 zn hZ;obtain⟨g,off,ha,hrg⟩:=(HS.each x (List.mem_of_getElem? hx.out)).p.range hz;have kz:wz.cell? ⟨g,off+j,none⟩=some (.int .i64 (zn:Int)):=by have h9:=hrg wz (P0.trans (hG7.out.low.mono P0.size));rw[Nat.mul_one]at h9;exact h9 0 _ rfl
        rw[ha]at k29;replace ha:=hid ha;have hz:=hid hz;have bal:=(Below.refl wz.heap.size wz).alloc nat_le_rfl (.cells #[.int .u8 (zn:Int)] 5);have GA:=hid (hG7.out.step bal);have TA:=hid (hT7.out.below bal);have LA:=hid (lit_num zn hZ wz);clear hz5 bal hrg;have hle:Hid ((L2++(numB 1 pn++(x.t.picks.take j).flatMap (fun z=>numB 1 z.toNat))).length<=21000600):=hid (by have h1:=flat_le (fun z:Int=>numB 1 z.toNat) 1 (x.t.picks.take j) (fun x _=>by rw[numB_len];exact Nat.le_refl _);rw[List.length_take]at h1;have:=hL2n.out;simp only[List.length_append,numB_len];omega)
        go_wp2_with (at_builtin;refine wpList_plain rfl fun _ hK=>ga_app (m:=numB 1 zn) GA.out _ _ rfl rfl wz.heap.size _ rfl LA.out (by have:=hle.out;rw[numB_len];omega) fun v6 w6 G6 g6=>hK _ _ ?_;have T6:=hid (GA.kept TA.out (by decide) g6);replace G6:=hid G6;clear g6)
        exact⟨⟨j+1,by go_num,by omega,hid (by rw[flat_take_succ _ _ _ hz.out,<-List.append_assoc (numB 1 pn),<-List.append_assoc L2];exact G6.out),T6⟩,by simp[intOf];omega⟩
       obtain rfl:j=pn:=by omega
       have hG8:Hid (GaI W0 (L2++partB pkC x.t) _ wz):=hid (by have h9:=hG7.out;rw[List.take_of_length_le (by rw[hpl];exact Nat.le_refl _)]at h9;rw[hpart];exact h9)
       clear hG7;go_wp2_with fail;exact⟨⟨k+1,by go_num,by omega,hid (by rw[hnext];exact hG8.out)⟩,by simp[intOf];omega⟩
     have e2:(kz==2)=false:=by simpa using k2
     have e3:(kz==3)=false:=by simpa using k3
     have e7:(kz==7)=false:=by simpa using k7
     have e8:(kz==8)=false:=by simpa using k8
     have k0:=(ktz _ hT6.out).1;have hpart:Hid (partB pkC x.t=[]):=hid (partB_b ⟨by rw[hkz.out];exact k2,by rw[hkz.out];exact k3,by rw[hkz.out];exact k7,by rw[hkz.out];exact k8⟩);clear ktz k2 k3 k7 k8;go_wp2_with fail;exact⟨⟨k+1,by go_num,by omega,hid (by rw[hnext,hpart,List.append_nil];exact hG6.out)⟩,by simp[intOf];omega⟩
   obtain rfl:k=n:=by omega
   have hfin:Hid (GaI W0 (rawS pkC s.sc) _ wy):=hid (by have h9:=hG.out;rw[show k=s.sc.ts.length from by rw[show s.sc.ts.length=s.ts.length by simp[ScC.sc],hlenT.out],preB_all]at h9;exact h9)
   clear hG;go_wp2_with fail;go_ret;exact⟨BW.out,_,rfl,ownsRow_mono hfin.own P0.size⟩
end
end Go.Proofs.YtkghejaimhoboaaGreatDoor
