/- Parts of the proof of ScriptRaws. -/
import Derived.Test.YtkghejaimhoboaaGreatDoorPr33
import Derived.Test.YtkghejaimhoboaaGreatDoorPr36
set_option linter.unusedSimpArgs false
set_option linter.unusedVariables false
set_option maxRecDepth 100000
set_option maxHeartbeats 8000000
namespace Go.Proofs.YtkghejaimhoboaaGreatDoor
open Go.RowKit Go.Shelf Go.Proofs.Tryz
section
attribute [local go_sem] Oper.semAt_some
theorem LsAt.zero{α:Type}{f:α->List Value}{size:Nat}(w:World):LsAt f size w none 0 0 ([]:List α):=(LsN.nil (f:=f) (size:=size) w []).at'
theorem alone_in{p:Pk}{h:H3}{w:World}(hin:p.In w h)(hk:1<=p.kind/\p.kind<=14):(aloneP p).In w (aloneH p h):=by
 unfold aloneP aloneH;have z:∀(q:Pk)(a b c:Hd),q.wants=[]->q.codes=[]->q.filters=[]->a=hdZ->b=hdZ->c=hdZ->q.In w ⟨a,b,c⟩:=by
  rintro q a b c h1 h2 h3 rfl rfl rfl;refine⟨?_,?_,?_⟩
  ·rw[h1];exact LsAt.zero w
  ·rw[h2];exact LsAt.zero w
  rw[h3];exact LsAt.zero w
 by_cases k8:p.kind=8
 ·rw[if_neg (by omega),if_neg (by omega),if_neg (by omega),if_pos k8,if_pos k8,if_neg (by omega),if_neg (by omega)];exact⟨hin.lw,LsAt.zero w,LsAt.zero w⟩
 by_cases k9:p.kind=9
 ·rw[if_neg (by omega),if_neg (by omega),if_neg (by omega),if_neg k8,if_pos k9,if_neg k8,if_pos k9,if_neg (by omega)];exact⟨LsAt.zero w,hin.lc,LsAt.zero w⟩
 by_cases k10:p.kind=10
 ·rw[if_neg (by omega),if_neg (by omega),if_neg (by omega),if_neg k8,if_neg k9,if_pos k10,if_neg k8,if_neg k9,if_pos k10];exact⟨LsAt.zero w,LsAt.zero w,hin.lf⟩
 rw[if_neg k8,if_neg k9,if_neg k10,if_neg k8,if_neg k9,if_neg k10]
 repeat' split
 all_goals exact z _ _ _ _ rfl rfl rfl rfl rfl rfl
theorem within_eq(z a b:Int):within z a b=(decide (a<=z)&&decide (z<=b)):=rfl
theorem mayP_1{p:Pk}(h:p.kind=1):mayP p=mayC p:=by unfold mayP;rw[if_pos h]
theorem mayP_2{p:Pk}(h:p.kind=2):mayP p=mayA p:=by unfold mayP;rw[if_neg (by omega),if_pos h]
theorem mayP_3{p:Pk}(h:p.kind=3):mayP p=mayPub p:=by unfold mayP;rw[if_neg (by omega),if_neg (by omega),if_pos h]
theorem mayP_8{p:Pk}(h:p.kind=8):mayP p=(within p.id 1 65535&&fitL p.wants mayWant):=by unfold mayP;rw[if_neg (by omega),if_neg (by omega),if_neg (by omega),if_pos h]
theorem mayP_9{p:Pk}(h:p.kind=9):mayP p=(within p.id 1 65535&&fitL p.codes mayCode):=by unfold mayP;rw[if_neg (by omega),if_neg (by omega),if_neg (by omega),if_neg (by omega),if_pos h]
theorem mayP_10{p:Pk}(h:p.kind=10):mayP p=(within p.id 1 65535&&fitL p.filters filterR):=by unfold mayP;rw[if_neg (by omega),if_neg (by omega),if_neg (by omega),if_neg (by omega),if_neg (by omega),if_pos h]
theorem mayP_i{p:Pk}(h:p.kind=4\/p.kind=5\/p.kind=6\/p.kind=7\/p.kind=11):mayP p=within p.id 1 65535:=by unfold mayP;rw[if_neg (by omega),if_neg (by omega),if_neg (by omega),if_neg (by omega),if_neg (by omega),if_neg (by omega),if_pos (by omega)]
theorem mayP_0{p:Pk}(h:12<=p.kind/\p.kind<=14):mayP p=true:=by unfold mayP;rw[if_neg (by omega),if_neg (by omega),if_neg (by omega),if_neg (by omega),if_neg (by omega),if_neg (by omega),if_neg (by omega)];exact decide_eq_true h
theorem Tells.by'{R:Prop}{mp b:Bool}{w w':World}(hR:R↔mp=true)(h:mp=b)(hb:Below w.heap.size w w'):Tells R w (.returned (.bool b)) w':=⟨b,rfl,by rw[hR,h],hb⟩
theorem fit_no{α:Type}{l:List α}{is:α->Bool}{k:Nat}{x:α}(h:l[k]?=some x)(hx:is x=false):fitL l is=false:=by apply Bool.eq_false_iff.2;intro h2;have:=fitL_all h2 x (List.mem_of_getElem? h);rw[hx]at this;cases this
theorem fit_yes{α:Type}{l:List α}{is:α->Bool}(h:∀(j:Nat) x,l[j]?=some x->is x=true):fitL l is=(decide (1<=l.length)&&decide (l.length<=8)):=by
 unfold fitL;have:l.all is=true:=List.all_eq_true.2 fun x hx=>by obtain⟨j,hj⟩:=List.getElem?_of_mem hx;exact h j x hj
 rw[this,Bool.and_true]
theorem r16_Right(p:Pk)(h:H3)(w:World)(hin:p.In w h)(hs:PkS p):Calls prog 84 #[.agg (p.cells h).toArray] w (Tells (rightP p) w):=by
 obtain⟨pc,hpc⟩:=gen_of ((p.cells h).toArray);obtain⟨kd,hkd⟩:=gen_of p.kind;have kc:Hid (∀W,Blk W w.heap.size pc 52->∀i,W.cell? ⟨w.heap.size,i,none⟩=(p.cells h)[i]?):=hid fun W hb i=>by rw[hb.cell,<-hpc];simp
 have kk:Hid (∀W,Blk W w.heap.size pc 52->W.cell? ⟨w.heap.size,0,none⟩=some (.int .i64 kd)):=hid fun W hb=>by rw[<-hkd];exact kc W hb 0
 have ic:Hid ((prog.info? 52).map (·.size)=some pc.size):=hid (by rw[<-hpc];exact(by kernel_rfl:(prog.info? 52).map (·.size)=some 24));have HI0:=hid (PkI.start w pc);have k0:=kk _ HI0.pk;have HIN:=hid hin;have HS:=hid hs;have CAL:=hid (fun W (hk:1<=p.kind/\p.kind<=14)=>r16_alone p h W hk);have CSM:=hid (fun W (hb:Below w.heap.size w W) (hk:1<=p.kind/\p.kind<=14)=>r16_Same (aloneP p) (aloneH p h) p h W (alone_in (hin.below hb) hk) (hin.below hb));have CCN:=hid (fun W=>r16_connect p h W hs);obtain⟨R,hR⟩:=gen_of (rightP p);have hRk:Hid (R->1<=kd/\kd<=14):=hid (fun h9=>by rw[<-hkd];exact rightP_kind (by rw[hR];exact h9));have hRm:Hid (R↔mayP p=true/\aloneP p=p):=hid (by rw[<-hR];exact Iff.rfl);rw[hR];rw[hpc]at CAL CSM CCN ⊢;replace hpc:=hid hpc;clear hR hin hs;go_enter func84,ntmps84;go_upto_region 2 with fail
 try simp only[PT]
 have HD:=HI0.step bel_refl.drew;refine regionQ [(1000,fun w'=>Blk w' w.heap.size pc 52)] (by kernel_rfl) ⟨HD.pk,trivial⟩ fun KQ hKQ=>?_;try simp only[PT]
 obtain⟨WD,hWD⟩:=gen_of ((w.alloc (.cells pc 52)).drew);rw[hWD]at HD ⊢;clear hWD HI0 k0;have HDh:=hid HD;by_cases k1:kd<1
 ·have d1:decide (kd<1)=true:=decide_eq_true k1;refine tQ [0,1,2] ?_;refine uQ 3 ?_;refine uQ 4 ?_;refine tQ [5,6] ?_;refine uQ 7 ?_;refine uQ 8 ?_;refine uQ 9 ?_;refine uQ 10 ?_;refine uQ 11 ?_;refine tQ [12] ?_;refine dQ (hKQ.out _ _ ?_);clear hKQ KQ;clear HD;go_wp2_with fail;go_ret;exact Tells.no (fun h9=>by have:=(hRk h9).1;omega) HDh.below
 have d1:decide (kd<1)=false:=decide_eq_false k1;by_cases k14:14<kd
 ·have d14:decide (14<kd)=true:=decide_eq_true k14;refine tQ [0,1,2,3,4,5,6] ?_;refine uQ 7 ?_;refine uQ 8 ?_;refine uQ 9 ?_;refine uQ 10 ?_;refine uQ 11 ?_;refine tQ [12] ?_;refine dQ (hKQ.out _ _ ?_);clear hKQ KQ;clear HD;go_wp2_with fail;go_ret;exact Tells.no (fun h9=>by have:=(hRk h9).2;omega) HDh.below
 have d14:decide (14<kd)=false:=decide_eq_false k14;have hk14:Hid (1<=p.kind/\p.kind<=14):=hid (by omega);refine tQ [0,1,2,3,4,5,6] ?_;refine loadQ 7 rfl (by kernel_rfl) (by kernel_rfl) rfl rfl 0 rfl (by kernel_rfl) (.agg pc) (fun w' hf=>by(exact run_load_blk hf 52 underlying52 rfl ic.out)) ?_;simp only[PT];refine loadQ 9 rfl (by kernel_rfl) (by kernel_rfl) rfl rfl 0 rfl (by kernel_rfl) (.agg pc) (fun w' hf=>by(exact run_load_blk hf 52 underlying52 rfl ic.out)) ?_;simp only[PT];refine sQ 8 fun K hK=>?_;simp only[GO];go_simp;refine(CAL WD hk14.out).mono ?_;rintro e w1 ⟨rfl,hb1⟩;have H1:=HD.step hb1;refine hK _ _ ⟨⟨fun _=>H1.pk,trivial⟩,?_⟩;clear hK K;try simp only[PT]
 refine sQ 10 fun K hK=>?_;simp only[GO];go_simp;refine(CSM w1 H1.below hk14.out).mono ?_;rintro e w2 ⟨sb,rfl,hsb,hb2⟩;have H2:=H1.step hb2;refine hK _ _ ⟨⟨fun _=>H2.pk,trivial⟩,?_⟩;clear hK K;try simp only[PT]
 refine tQ [11,12] ?_;refine dQ (hKQ.out _ _ ?_);clear hKQ KQ;replace H2:=hid H2;replace hsb:=hid hsb;clear HD HDh H1 hb1 hb2 CAL CSM;cases sb with
 |false=>
  go_wp2_with fail
  go_ret;exact Tells.no (fun h9=>by have:=hsb.2 (hRm.1 h9).2;cases this) H2.below
 | true=>
  try simp only[Bool.not_true]
  have hal:=hid (hsb.1 rfl);obtain⟨mp,hmp⟩:=gen_of (mayP p);have hRb:Hid (R↔mp=true):=hid (by rw[hRm.out,hmp];exact⟨fun h=>h.1,fun h=>⟨h,hal.out⟩⟩);have hmp:=hid hmp;clear hsb hRm;obtain⟨idz,hidz⟩:=gen_of p.id;have k6:w2.cell? ⟨w.heap.size,6,none⟩=some (.int .i64 idz):=by rw[<-hidz];exact kc _ H2.pk 6
  go_upto_region 4 with fail
  try simp only[PT]
  go_cut [4]from 32 (fun s4 wx=>s4=.bool (within idz 1 65535)/\w2=wx)
  case first=>
   by_cases i1:1<=idz
   ·have e1:decide (1<=idz)=true:=decide_eq_true i1;by_cases i2:idz<=65535
    ·have e2:decide (idz<=65535)=true:=decide_eq_true i2;go_wp2_with fail
     go_meet
     case rel=>exact⟨by rw[within_eq,e1,e2];rfl,rfl⟩
    have e2:decide (idz<=65535)=false:=decide_eq_false i2;go_wp2_with fail
    go_meet
    case rel=>exact⟨by rw[within_eq,e1,e2];rfl,rfl⟩
   have e1:decide (1<=idz)=false:=decide_eq_false i1;go_wp2_with fail
   go_meet
   case rel=>exact⟨by rw[within_eq,e1];rfl,rfl⟩
  case rest=>
   obtain⟨rfl,rfl⟩:=hcut;obtain⟨ib,hib⟩:=gen_of (within idz 1 65535);rw[hib];have hib:=hid hib;clear k6;have:kd=1\/kd=2\/kd=3\/kd=4\/kd=5\/kd=6\/kd=7\/kd=8\/kd=9\/kd=10\/kd=11\/kd=12\/kd=13\/kd=14:=by omega
   clear d1 d14 k1 k14;rcases this with rfl | rfl | rfl | rfl | rfl | rfl | rfl | rfl | rfl | rfl | rfl | rfl | rfl | rfl
   ·have hm:Hid (mp=mayC p):=hid (by rw[<-hmp.out,mayP_1 hkd]);have ta:=H2.pk;go_wp2_with (refine wL 52 rfl rfl ta underlying52 ?_ rfl rfl ic.out)
    refine(CCN _).mono ?_;rintro e w3 ⟨rfl,hb3⟩;have H3:=hid (H2.step hb3);clear hb3 ta;go_wp2_with fail;go_ret;exact Tells.by' hRb.out hm.out H3.below
   ·obtain⟨cz,hcz⟩:=gen_of p.code;obtain⟨pr,hpr⟩:=gen_of p.present;have hm:Hid (mp=(within cz 0 5&&(decide (cz=0)|| !pr))):=hid (by rw[<-hmp.out,mayP_2 hkd,<-hcz,<-hpr];rfl);have k20:w2.cell? ⟨w.heap.size,20,none⟩=some (.int .i64 cz):=by rw[<-hcz];exact kc _ H2.pk 20
    have k19:w2.cell? ⟨w.heap.size,19,none⟩=some (.bool pr):=by rw[<-hpr];exact kc _ H2.pk 19
    clear hcz hpr;by_cases c1:0<=cz
    ·have e1:decide (0<=cz)=true:=decide_eq_true c1;by_cases c2:cz<=5
     ·have e2:decide (cz<=5)=true:=decide_eq_true c2;cases pr with
      |false=>
       go_wp2_with fail
       go_ret;exact Tells.by' hRb.out (by rw[hm,within_eq,e1,e2];simp) H2.below
      | true=>
       by_cases c0:cz=0
       ·subst c0;go_wp2_with fail
        go_ret;exact Tells.by' hRb.out (by rw[hm];rfl) H2.below
       have e0:(cz==0)=false:=by simpa using c0
       go_wp2_with fail
       go_ret;exact Tells.by' hRb.out (by rw[hm,decide_eq_false c0];simp) H2.below
     have e2:decide (cz<=5)=false:=decide_eq_false c2;go_wp2_with fail
     go_ret;exact Tells.by' hRb.out (by rw[hm,within_eq,e2];simp) H2.below
    have e1:decide (0<=cz)=false:=decide_eq_false c1;go_wp2_with fail
    go_ret;exact Tells.by' hRb.out (by rw[hm,within_eq,e1];simp) H2.below
   ·obtain⟨qz,hqz⟩:=gen_of p.qos;obtain⟨du,hdu⟩:=gen_of p.dup;have hm:Hid (mp=(nameR p.topic&&decide (p.body.length<=2000)&&within qz 0 2&&((decide (qz=0)&&decide (idz=0)&& !du)||(decide (0<qz)&&ib)))):=hid (by rw[<-hmp.out,mayP_3 hkd,<-hqz,<-hdu,<-hib.out,<-hidz];rfl);have CN:=hid (fun W=>r13_Name2 p.topic W (by have:=HS.topic;omega));have hbl:=HS.body;have hsz1:ByteArray.size ⟨p.body.toArray⟩=p.body.length:=by simp[ByteArray.size]
    obtain⟨nm,hnm⟩:=gen_of (nameR p.topic);rw[hnm]at CN hm;obtain⟨n,hn⟩:=gen_of p.body.length;obtain⟨bb,hbb⟩:=gen_of ((⟨p.body.toArray⟩:ByteArray):ByteArray);rw[hn]at hm hsz1 hbl;have kqc:Hid (∀W,Blk W w.heap.size pc 52->W.cell? ⟨w.heap.size,5,none⟩=some (.string bb)/\W.cell? ⟨w.heap.size,3,none⟩=some (.int .i64 qz)/\W.cell? ⟨w.heap.size,1,none⟩=some (.bool du)/\W.cell? ⟨w.heap.size,6,none⟩=some (.int .i64 idz)):=hid fun W hb=>⟨by rw[<-hbb];exact kc _ hb 5,by rw[<-hqz];exact kc _ hb 3,by rw[<-hdu];exact kc _ hb 1,by rw[<-hidz];exact kc _ hb 6⟩;rw[hbb]at hsz1;have k4:w2.cell? ⟨w.heap.size,4,none⟩=some (.string ⟨p.topic.toArray⟩):=kc _ H2.pk 4;clear hnm hn hbb hqz hdu;go_wp2_with fail;refine(CN _).mono ?_;rintro e w3 ⟨rfl,hb3⟩;have H3:=hid (H2.step hb3);have k5:=(kqc _ H3.pk).1;have k3:=(kqc _ H3.pk).2.1;have j1:=(kqc _ H3.pk).2.2.1;have j6:=(kqc _ H3.pk).2.2.2;clear hb3 k4 CN;cases nm with
    |false=>
     go_wp2_with fail
     go_ret;exact Tells.by' hRb.out (by rw[hm];rfl) H3.below
    | true=>
     by_cases h2:2000<n
     ·have d:decide (2000<(n:Int))=true:=decide_eq_true (by omega);go_wp2_with fail
      go_ret;exact Tells.by' hRb.out (by rw[hm,show decide (n<=2000)=false from decide_eq_false (by omega)];rfl) H3.below
     have d:decide (2000<(n:Int))=false:=decide_eq_false (by omega);have hn2:decide (n<=2000)=true:=decide_eq_true (by omega);by_cases h3:qz<0
     ·have d3:decide (qz<0)=true:=decide_eq_true h3;go_wp2_with fail
      go_ret;exact Tells.by' hRb.out (by rw[hm,show within qz 0 2=false from by unfold within;simp;omega];simp) H3.below
     have d3:decide (qz<0)=false:=decide_eq_false h3;by_cases h4:2<qz
     ·have d4:decide (2<qz)=true:=decide_eq_true h4;go_wp2_with fail
      go_ret;exact Tells.by' hRb.out (by rw[hm,show within qz 0 2=false from by unfold within;simp;omega];simp) H3.below
     have d4:decide (2<qz)=false:=decide_eq_false h4;have hm2:Hid (mp=((decide (qz=0)&&decide (idz=0)&& !du)||(decide (0<qz)&&ib))):=hid (by rw[hm,hn2,show within qz 0 2=true from by unfold within;simp;omega];rfl);clear hm hn2;by_cases h5:0<qz
     ·have d5:decide (0<qz)=true:=decide_eq_true h5;have d6:(qz==0)=false:=by simpa using(show qz≠0 by omega)
      have hm3:Hid (mp=ib):=hid (by rw[hm2,d5,decide_eq_false (show¬qz=0 by omega)];simp);cases ib<;>
      ·go_wp2_with fail
       go_ret;exact Tells.by' hRb.out hm3.out H3.below
     obtain rfl:qz=0:=by omega
     have hm3:Hid (mp=(decide (idz=0)&& !du)):=hid (by rw[hm2];simp);by_cases h7:idz=0
     ·subst h7;have hm4:Hid (mp= !du):=hid (by rw[hm3];rfl);cases du<;>
      ·go_wp2_with fail
       go_ret;exact Tells.by' hRb.out hm4.out H3.below
     have d7:(idz==0)=false:=by simpa using h7
     have hm4:Hid (mp=false):=hid (by rw[hm3,decide_eq_false h7];rfl);go_wp2_with fail
     go_ret;exact Tells.by' hRb.out hm4.out H3.below
   ·have hm:Hid (mp=ib):=hid (by rw[<-hmp.out,mayP_i (by omega),hidz];exact hib.out);go_wp2_with fail
    go_ret;exact Tells.by' hRb.out hm.out H2.below
   ·have hm:Hid (mp=ib):=hid (by rw[<-hmp.out,mayP_i (by omega),hidz];exact hib.out);go_wp2_with fail
    go_ret;exact Tells.by' hRb.out hm.out H2.below
   ·have hm:Hid (mp=ib):=hid (by rw[<-hmp.out,mayP_i (by omega),hidz];exact hib.out);go_wp2_with fail
    go_ret;exact Tells.by' hRb.out hm.out H2.below
   ·have hm:Hid (mp=ib):=hid (by rw[<-hmp.out,mayP_i (by omega),hidz];exact hib.out);go_wp2_with fail
    go_ret;exact Tells.by' hRb.out hm.out H2.below
   ·have hm:Hid (mp=(ib&&fitL p.wants mayWant)):=hid (by rw[<-hmp.out,mayP_8 hkd,hidz,hib.out]);have hcnt:h.w.n<=9223372036854775807:=by have h1:=HIN.lw.le;have h2:=HIN.lw.max;unfold maxLen at h2;omega
    have klc:Hid (∀W,Blk W w.heap.size pc 52->W.cell? ⟨w.heap.size,21,none⟩=some (.slice h.w.a h.w.n h.w.c)):=hid fun W hb=>kc.out _ hb 21;go_wp2_with fail
    go_loopw [5] (fun i wr=>∃k:Nat,i=.int .i64 k/\k<=h.w.n/\Hid (PkI w pc wr)/\Hid (∀(j:Nat) x,p.wants[j]?=some x->j<k->mayWant x=true)) (fun i _=>h.w.n-(intOf i).toNat)
    case atStart=>exact⟨0,by go_num,Nat.zero_le _,H2,hid fun j x _ hj=>absurd hj (by omega)⟩
    case round=>
     obtain⟨k,rfl,hkn,HK,hall⟩:=hrel;obtain⟨wx,hwx⟩:∃W,W=wr:=⟨_,rfl⟩;subst hwx;have kl:=klc _ HK.out.pk;clear H2;rcases Nat.lt_or_ge k h.w.n with hlt | hge
     ·obtain⟨x,hx⟩:∃x,p.wants[k]?=some x:=⟨_,List.getElem?_eq_getElem (by rw[HIN.lw.len];exact hlt)⟩;obtain⟨g,off,ha,hrg⟩:=HIN.lw.range hx;have hno:Hid (mayWant x=false->mp=false):=hid fun h9=>by rw[hm,fit_no hx h9];simp
      have hyes:Hid (mayWant x=true->∀(j:Nat) y,p.wants[j]?=some y->j<k+1->mayWant y=true):=hid fun h9 j y hj hjk=>by
       by_cases hjk2:j=k
       ·subst hjk2;rw[hx]at hj;cases hj;exact h9
       exact hall.out j y hj (by omega)
      rw[ha]at kl;have ha:=hid ha;have CF:=hid (fun W=>r13_Filter2 x.filter W (by have:=HS.wants x (List.mem_of_getElem? hx);omega));obtain⟨qz,hqz⟩:=gen_of x.qos;have hcl:x.cl=[.string ⟨x.filter.toArray⟩,.int .i64 qz]:=by unfold WantV.cl;rw[hqz]
      rw[hcl]at hrg;have hrg:=hid hrg;have kf:wx.cell? ⟨g,off+k*2,none⟩=some (.string ⟨x.filter.toArray⟩):=by simpa using hrg.out wx HK.out.below 0 _ rfl
      obtain⟨fb,hfb⟩:=gen_of (filterR x.filter);have hmw:Hid (mayWant x=(fb&&within qz 0 2)):=hid (by unfold mayWant;rw[hfb,hqz]);rw[hfb]at CF;replace hx:=hid hx;replace hqz:=hid hqz;clear hfb hcl;go_wp2_with fail;refine(CF _).mono ?_;rintro e w3 ⟨rfl,hb3⟩;have H3:=hid (HK.out.step hb3);have kl3:=klc _ H3.pk;rw[ha.out]at kl3;have kq:w3.cell? ⟨g,off+k*2+1,none⟩=some (.int .i64 qz):=by simpa using hrg.out w3 H3.below 1 _ rfl
      clear hb3 kf kl CF HK;cases fb with
      |false=>
       go_wp2_with fail
       go_ret;exact Tells.by' hRb.out (hno (by rw[hmw];rfl)) H3.below
      | true=>
       by_cases q1:qz<0
       ·have e1:decide (qz<0)=true:=decide_eq_true q1;go_wp2_with fail
        go_ret;exact Tells.by' hRb.out (hno (by rw[hmw];unfold within;simp;omega)) H3.below
       have e1:decide (qz<0)=false:=decide_eq_false q1;by_cases q2:2<qz
       ·have e2:decide (2<qz)=true:=decide_eq_true q2;go_wp2_with fail
        go_ret;exact Tells.by' hRb.out (hno (by rw[hmw];unfold within;simp;omega)) H3.below
       have e2:decide (2<qz)=false:=decide_eq_false q2;have hy:=hid (hyes (by rw[hmw];unfold within;simp;omega));clear hno hyes hmw;go_wp2_with fail;try simp only[PT]
       go_roundw
       case rel=>exact⟨k+1,by go_num,by omega,H3,hy⟩
       case measure=>simp[intOf];omega
     obtain rfl:k=h.w.n:=by omega
     have hfl:fitL p.wants mayWant=(decide (1<=h.w.n)&&decide (h.w.n<=8)):=by rw[<-HIN.lw.len];refine fit_yes fun j x hj=>hall.out j x hj ?_;rw[<-HIN.lw.len];exact(List.getElem?_eq_some_iff.1 hj).1
     have hm2:Hid (mp=(ib&&(decide (1<=h.w.n)&&decide (h.w.n<=8)))):=hid (by rw[hm,hfl]);clear hfl hge hkn;cases ib with
     |false=>
      go_wp2_with fail
      go_ret;exact Tells.by' hRb.out (by rw[hm2];rfl) HK.out.below
     | true=>
      by_cases q1:1<=h.w.n
      ·have e1:decide (1<=(h.w.n:Int))=true:=decide_eq_true (by omega);by_cases q2:h.w.n<=8
       ·have e2:decide ((h.w.n:Int)<=8)=true:=decide_eq_true (by omega);have hm3:Hid (mp=true):=hid (by rw[hm2,decide_eq_true q1,decide_eq_true q2];rfl);go_wp2_with fail
        go_ret;exact Tells.by' hRb.out hm3.out HK.out.below
       have e2:decide ((h.w.n:Int)<=8)=false:=decide_eq_false (by omega);have hm3:Hid (mp=false):=hid (by rw[hm2,decide_eq_false q2];simp);go_wp2_with fail
       go_ret;exact Tells.by' hRb.out hm3.out HK.out.below
      have e1:decide (1<=(h.w.n:Int))=false:=decide_eq_false (by omega);have hm3:Hid (mp=false):=hid (by rw[hm2,decide_eq_false q1];simp);go_wp2_with fail
      go_ret;exact Tells.by' hRb.out hm3.out HK.out.below
   ·have hm:Hid (mp=(ib&&fitL p.codes mayCode)):=hid (by rw[<-hmp.out,mayP_9 hkd,hidz,hib.out]);have hcnt:h.c.n<=9223372036854775807:=by have h1:=HIN.lc.le;have h2:=HIN.lc.max;unfold maxLen at h2;omega
    have klc:Hid (∀W,Blk W w.heap.size pc 52->W.cell? ⟨w.heap.size,22,none⟩=some (.slice h.c.a h.c.n h.c.c)):=hid fun W hb=>kc.out _ hb 22;go_wp2_with fail
    go_loopw [6] (fun i wr=>∃k:Nat,i=.int .i64 k/\k<=h.c.n/\Hid (PkI w pc wr)/\Hid (∀(j:Nat) x,p.codes[j]?=some x->j<k->mayCode x=true)) (fun i _=>h.c.n-(intOf i).toNat)
    case atStart=>exact⟨0,by go_num,Nat.zero_le _,H2,hid fun j x _ hj=>absurd hj (by omega)⟩
    case round=>
     obtain⟨k,rfl,hkn,HK,hall⟩:=hrel;obtain⟨wx,hwx⟩:∃W,W=wr:=⟨_,rfl⟩;subst hwx;have kl:=klc _ HK.out.pk;clear H2;rcases Nat.lt_or_ge k h.c.n with hlt | hge
     ·obtain⟨x,hx⟩:∃x,p.codes[k]?=some x:=⟨_,List.getElem?_eq_getElem (by rw[HIN.lc.len];exact hlt)⟩;obtain⟨g,off,ha,hrg⟩:=HIN.lc.range hx;have hno:Hid (mayCode x=false->mp=false):=hid fun h9=>by rw[hm,fit_no hx h9];simp
      have hyes:Hid (mayCode x=true->∀(j:Nat) y,p.codes[j]?=some y->j<k+1->mayCode y=true):=hid fun h9 j y hj hjk=>by
       by_cases hjk2:j=k
       ·subst hjk2;rw[hx]at hj;cases hj;exact h9
       exact hall.out j y hj (by omega)
      rw[ha]at kl;have ha:=hid ha;have kf:wx.cell? ⟨g,off+k,none⟩=some (.int .i64 x):=by simpa using hrg wx HK.out.below 0 _ rfl
      have hmw:Hid (mayCode x=(within x 0 2||decide (x=128))):=hid rfl;replace hx:=hid hx;clear hrg;by_cases c0:x=0
      ·subst c0;have hy:=hid (hyes rfl);clear hno hyes hmw;go_wp2_with fail;refine⟨⟨k+1,by go_num,by omega,HK,hy⟩,by simp[intOf];omega⟩
      by_cases c1:x=1
      ·subst c1;have hy:=hid (hyes rfl);clear hno hyes hmw;go_wp2_with fail;refine⟨⟨k+1,by go_num,by omega,HK,hy⟩,by simp[intOf];omega⟩
      by_cases c2:x=2
      ·subst c2;have hy:=hid (hyes rfl);clear hno hyes hmw;go_wp2_with fail;refine⟨⟨k+1,by go_num,by omega,HK,hy⟩,by simp[intOf];omega⟩
      by_cases c3:x=128
      ·subst c3;have hy:=hid (hyes rfl);clear hno hyes hmw;go_wp2_with fail;refine⟨⟨k+1,by go_num,by omega,HK,hy⟩,by simp[intOf];omega⟩
      have e0:(x !=0)=true:=by simpa using c0
      have e1:(x !=1)=true:=by simpa using c1
      have e2:(x !=2)=true:=by simpa using c2
      have e3:(x !=128)=true:=by simpa using c3
      have hbad:=hid (hno (by rw[hmw];unfold within;simp;omega));clear hno hyes hmw;go_wp2_with fail;go_ret;exact Tells.by' hRb.out hbad.out HK.out.below
     obtain rfl:k=h.c.n:=by omega
     have hfl:fitL p.codes mayCode=(decide (1<=h.c.n)&&decide (h.c.n<=8)):=by rw[<-HIN.lc.len];refine fit_yes fun j x hj=>hall.out j x hj ?_;rw[<-HIN.lc.len];exact(List.getElem?_eq_some_iff.1 hj).1
     have hm2:Hid (mp=(ib&&(decide (1<=h.c.n)&&decide (h.c.n<=8)))):=hid (by rw[hm,hfl]);clear hfl hge hkn;cases ib with
     |false=>
      go_wp2_with fail
      go_ret;exact Tells.by' hRb.out (by rw[hm2];rfl) HK.out.below
     | true=>
      by_cases q1:1<=h.c.n
      ·have e1:decide (1<=(h.c.n:Int))=true:=decide_eq_true (by omega);by_cases q2:h.c.n<=8
       ·have e2:decide ((h.c.n:Int)<=8)=true:=decide_eq_true (by omega);have hm3:Hid (mp=true):=hid (by rw[hm2,decide_eq_true q1,decide_eq_true q2];rfl);go_wp2_with fail
        go_ret;exact Tells.by' hRb.out hm3.out HK.out.below
       have e2:decide ((h.c.n:Int)<=8)=false:=decide_eq_false (by omega);have hm3:Hid (mp=false):=hid (by rw[hm2,decide_eq_false q2];simp);go_wp2_with fail
       go_ret;exact Tells.by' hRb.out hm3.out HK.out.below
      have e1:decide (1<=(h.c.n:Int))=false:=decide_eq_false (by omega);have hm3:Hid (mp=false):=hid (by rw[hm2,decide_eq_false q1];simp);go_wp2_with fail
      go_ret;exact Tells.by' hRb.out hm3.out HK.out.below
   ·have hm:Hid (mp=(ib&&fitL p.filters filterR)):=hid (by rw[<-hmp.out,mayP_10 hkd,hidz,hib.out]);have hcnt:h.f.n<=9223372036854775807:=by have h1:=HIN.lf.le;have h2:=HIN.lf.max;unfold maxLen at h2;omega
    have klc:Hid (∀W,Blk W w.heap.size pc 52->W.cell? ⟨w.heap.size,23,none⟩=some (.slice h.f.a h.f.n h.f.c)):=hid fun W hb=>kc.out _ hb 23;go_wp2_with fail
    go_loopw [8] (fun i wr=>∃k:Nat,i=.int .i64 k/\k<=h.f.n/\Hid (PkI w pc wr)/\Hid (∀(j:Nat) x,p.filters[j]?=some x->j<k->filterR x=true)) (fun i _=>h.f.n-(intOf i).toNat)
    case atStart=>exact⟨0,by go_num,Nat.zero_le _,H2,hid fun j x _ hj=>absurd hj (by omega)⟩
    case round=>
     obtain⟨k,rfl,hkn,HK,hall⟩:=hrel;obtain⟨wx,hwx⟩:∃W,W=wr:=⟨_,rfl⟩;subst hwx;have kl:=klc _ HK.out.pk;clear H2;rcases Nat.lt_or_ge k h.f.n with hlt | hge
     ·obtain⟨x,hx⟩:∃x,p.filters[k]?=some x:=⟨_,List.getElem?_eq_getElem (by rw[HIN.lf.len];exact hlt)⟩;obtain⟨g,off,ha,hrg⟩:=HIN.lf.range hx;have hno:Hid (filterR x=false->mp=false):=hid fun h9=>by rw[hm,fit_no hx h9];simp
      have hyes:Hid (filterR x=true->∀(j:Nat) y,p.filters[j]?=some y->j<k+1->filterR y=true):=hid fun h9 j y hj hjk=>by
       by_cases hjk2:j=k
       ·subst hjk2;rw[hx]at hj;cases hj;exact h9
       exact hall.out j y hj (by omega)
      rw[ha]at kl;have ha:=hid ha;have CF:=hid (fun W=>r13_Filter2 x W (by have:=HS.filters x (List.mem_of_getElem? hx);omega));have kf:wx.cell? ⟨g,off+k,none⟩=some (.string ⟨x.toArray⟩):=by simpa using hrg wx HK.out.below 0 _ rfl
      obtain⟨fb,hfb⟩:=gen_of (filterR x);rw[hfb]at CF;replace hx:=hid hx;replace hfb:=hid hfb;clear hrg;go_wp2_with fail;refine(CF _).mono ?_;rintro e w3 ⟨rfl,hb3⟩;have H3:=hid (HK.out.step hb3);clear hb3 kf kl CF HK;cases fb with
      |false=>
       go_wp2_with fail
       go_ret;exact Tells.by' hRb.out (hno hfb.out) H3.below
      |true=>
       have hy:=hid (hyes hfb.out);clear hno hyes;go_wp2_with fail;try simp only[PT]
       go_roundw
       case rel=>exact⟨k+1,by go_num,by omega,H3,hy⟩
       case measure=>simp[intOf];omega
     obtain rfl:k=h.f.n:=by omega
     have hfl:fitL p.filters filterR=(decide (1<=h.f.n)&&decide (h.f.n<=8)):=by rw[<-HIN.lf.len];refine fit_yes fun j x hj=>hall.out j x hj ?_;rw[<-HIN.lf.len];exact(List.getElem?_eq_some_iff.1 hj).1
     have hm2:Hid (mp=(ib&&(decide (1<=h.f.n)&&decide (h.f.n<=8)))):=hid (by rw[hm,hfl]);clear hfl hge hkn;cases ib with
     |false=>
      go_wp2_with fail
      go_ret;exact Tells.by' hRb.out (by rw[hm2];rfl) HK.out.below
     | true=>
      by_cases q1:1<=h.f.n
      ·have e1:decide (1<=(h.f.n:Int))=true:=decide_eq_true (by omega);by_cases q2:h.f.n<=8
       ·have e2:decide ((h.f.n:Int)<=8)=true:=decide_eq_true (by omega);have hm3:Hid (mp=true):=hid (by rw[hm2,decide_eq_true q1,decide_eq_true q2];rfl);go_wp2_with fail
        go_ret;exact Tells.by' hRb.out hm3.out HK.out.below
       have e2:decide ((h.f.n:Int)<=8)=false:=decide_eq_false (by omega);have hm3:Hid (mp=false):=hid (by rw[hm2,decide_eq_false q2];simp);go_wp2_with fail
       go_ret;exact Tells.by' hRb.out hm3.out HK.out.below
      have e1:decide (1<=(h.f.n:Int))=false:=decide_eq_false (by omega);have hm3:Hid (mp=false):=hid (by rw[hm2,decide_eq_false q1];simp);go_wp2_with fail
      go_ret;exact Tells.by' hRb.out hm3.out HK.out.below
   ·have hm:Hid (mp=ib):=hid (by rw[<-hmp.out,mayP_i (by omega),hidz];exact hib.out);go_wp2_with fail
    go_ret;exact Tells.by' hRb.out hm.out H2.below
   ·have hm:Hid (mp=true):=hid (by rw[<-hmp.out,mayP_0 (by omega)]);go_wp2_with fail
    go_ret;exact Tells.by' hRb.out hm.out H2.below
   ·have hm:Hid (mp=true):=hid (by rw[<-hmp.out,mayP_0 (by omega)]);go_wp2_with fail
    go_ret;exact Tells.by' hRb.out hm.out H2.below
   skip;have hm:Hid (mp=true):=hid (by rw[<-hmp.out,mayP_0 (by omega)]);go_wp2_with fail
   go_ret;exact Tells.by' hRb.out hm.out H2.below
end
section
theorem bk_R28T_tl1{P:Prop}(h:P:=by
 rw[hac.out]at TW;have k14:=CS _ TW.low;have hTW:=hid TW;have t1:=TW.one;have t2:=TW.two;clear TW T3;go_wp2_with (first
  | (refine wLG 55 rfl rfl t2 underlying55 rfl ?_ iac.out)
  | (refine wLG 55 rfl rfl t1 underlying55 rfl ?_ ixc.out))
 refine k14.mono ?_;rintro e w5 ⟨sb,rfl,hsb,hb5⟩;have T5:=hTW.step hb5;clear k14 hTW t1 t2;cases sb with
 |false=>
  go_wp2_with fail
  go_ret;exact Tells.no (fun h9=>by have:=hsb.2 (hRi.1 h9).2.1;cases this) T5.low
 | true=>
  have hal:=hid (hsb.1 rfl);have T5h:=hid T5;have k1:w5.cell? ⟨w.heap.size,1,none⟩=some (.int .i64 cz):=by rw[<-hcz.out];exact kc _ T5.one 1
  have k26:w5.cell? ⟨w.heap.size,26,none⟩=some (.string bs):=by rw[<-hbs.out];exact kc _ T5.one 26
  have k27:w5.cell? ⟨w.heap.size,27,none⟩=some (.int .i64 az):=by rw[<-haz.out];exact kc _ T5.one 27
  have k28:w5.cell? ⟨w.heap.size,28,none⟩=some (.int .i64 nz):=by rw[<-hnz.out];exact kc _ T5.one 28
  have k29:w5.cell? ⟨w.heap.size,29,none⟩=some (.slice x.hp.a pn x.hp.c):=by rw[<-hpn.out];exact kc _ T5.one 29
  replace hRi:Hid (R↔(0<=cz/\cz<=65535)/\bn<=10000/\pn<=255/\(0<=az/\az<=2)/\(-1<=nz/\nz<=65534)/\(∀z∈x.t.picks,0<=z/\z<=255)/\(x.t.kind=2->rightP x.t.pk)):=hid (by rw[hRi.out];exact⟨fun h=>h.2.2,fun h=>⟨by have:=hkd.out;omega,hal.out,h⟩⟩)
  clear hsb hb5;by_cases q1:cz<0
  ·have d1:decide (cz<0)=true:=decide_eq_true q1;go_wp2_with fail
   go_ret;exact Tells.no (fun h9=>by have:=hRi.1 h9;omega) T5.low
  have d1:decide (cz<0)=false:=decide_eq_false q1;by_cases q2:65535<cz
  ·have d2:decide (65535<cz)=true:=decide_eq_true q2;go_wp2_with fail
   go_ret;exact Tells.no (fun h9=>by have:=hRi.1 h9;omega) T5.low
  have d2:decide (65535<cz)=false:=decide_eq_false q2;by_cases q3:10000<bn
  ·have d3:decide (10000<(bn:Int))=true:=decide_eq_true (by omega);go_wp2_with fail
   go_ret;exact Tells.no (fun h9=>by have:=hRi.1 h9;omega) T5.low
  have d3:decide (10000<(bn:Int))=false:=decide_eq_false (by omega);by_cases q4:255<pn
  ·have d4:decide (255<(pn:Int))=true:=decide_eq_true (by omega);go_wp2_with fail
   go_ret;exact Tells.no (fun h9=>by have:=hRi.1 h9;omega) T5.low
  have d4:decide (255<(pn:Int))=false:=decide_eq_false (by omega);by_cases q5:az<0
  ·have d5:decide (az<0)=true:=decide_eq_true q5;go_wp2_with fail
   go_ret;exact Tells.no (fun h9=>by have:=hRi.1 h9;omega) T5.low
  have d5:decide (az<0)=false:=decide_eq_false q5;by_cases q6:2<az
  ·have d6:decide (2<az)=true:=decide_eq_true q6;go_wp2_with fail
   go_ret;exact Tells.no (fun h9=>by have:=hRi.1 h9;omega) T5.low
  have d6:decide (2<az)=false:=decide_eq_false q6;by_cases q7:nz< -1
  ·have d7:decide (nz< -1)=true:=decide_eq_true q7;go_wp2_with fail
   go_ret;exact Tells.no (fun h9=>by have:=hRi.1 h9;omega) T5.low
  have d7:decide (nz< -1)=false:=decide_eq_false q7;by_cases q8:65534<nz
  ·have d8:decide (65534<nz)=true:=decide_eq_true q8;go_wp2_with fail
   go_ret;exact Tells.no (fun h9=>by have:=hRi.1 h9;omega) T5.low
  have d8:decide (65534<nz)=false:=decide_eq_false q8;replace hRi:Hid (R↔(∀z∈x.t.picks,0<=z/\z<=255)/\(x.t.kind=2->rightP x.t.pk)):=hid (by rw[hRi.out];exact⟨fun h=>h.2.2.2.2.2,fun h=>⟨by omega,by omega,by omega,by omega,by omega,h⟩⟩)
  clear T5;go_wp2_with fail;clear k1 k26 k27 k28 k29 d1 d2 d3 d5 d6 d7 d8 q1 q2 q3 q5 q6 q7 q8;go_loopw [5] (fun i wr=>∃j:Nat,j<=pn/\i=.int .i64 j/\Hid (TnI w xc ac wr)/\Hid (∀z∈x.t.picks.take j,0<=z/\z<=255)) (fun i _=>pn-(intOf i).toNat)
  case atStart=>exact⟨0,Nat.zero_le _,by go_num,T5h,hid (by simp)⟩
  case round=>
   obtain⟨j,hj,rfl,hT,hall⟩:=hrel;obtain⟨wx,hwx⟩:∃W,W=wr:=⟨_,rfl⟩;subst hwx;have k29:wx.cell? ⟨w.heap.size,29,none⟩=some (.slice x.hp.a pn x.hp.c):=by rw[<-hpn.out];exact kc _ hT.out.one 29
   by_cases hjm:j<pn
   ·obtain⟨z,hz⟩:∃z,x.t.picks[j]?=some z:=⟨_,List.getElem?_eq_getElem (by rw[HIN.p.len,hpn.out];exact hjm)⟩;obtain⟨g,off,ha,hrg⟩:=HIN.p.range hz;have hc:=hrg wx hT.out.low 0 (.int .i64 z) rfl;rw[ha]at k29;simp only[Nat.mul_one,Nat.add_zero]at hc;have hzm:=List.mem_of_getElem? hz;have T6:=hT.out;by_cases y1:z<0
    ·have e1:decide (z<0)=true:=decide_eq_true y1;go_wp2_with fail
     go_ret;exact Tells.no (fun h9=>by have:=(hRi.1 h9).1 z hzm;omega) T6.low
    have e1:decide (z<0)=false:=decide_eq_false y1;by_cases y2:255<z
    ·have e2:decide (255<z)=true:=decide_eq_true y2;go_wp2_with fail
     go_ret;exact Tells.no (fun h9=>by have:=(hRi.1 h9).1 z hzm;omega) T6.low
    have e2:decide (255<z)=false:=decide_eq_false y2;clear T6 hrg;go_wp2_with fail;refine⟨⟨j+1,by omega,by go_num,hT,hid fun u hu=>?_⟩,by simp[intOf];omega⟩;rw[List.take_add_one,hz]at hu;rcases List.mem_append.1 hu with hu | hu
    ·exact hall.out u hu
    simp at hu;subst hu;omega
   obtain rfl:j=pn:=by omega
   have hall':Hid (∀z∈x.t.picks,0<=z/\z<=255):=hid (by
    have h9:=hall.out
    rwa [List.take_of_length_le (by rw[HIN.p.len,hpn.out];exact Nat.le_refl _)]at h9)
   have HP:=hid (Blk.mid hT.out.one [.int .i64 x.t.kind,.int .i64 x.t.conn] (x.t.pk.cells x.h) [.string ⟨x.t.bytes.toArray⟩,.int .i64 x.t.arm,.int .i64 x.t.n,.slice x.hp.a x.hp.n x.hp.c] (by rw[<-hxc.out];rfl));have HPk:=hid (HIN.pk.below hT.out.low);clear hall;go_wp2_with fail;go_ret;exact Tells.yes (hRi.2 ⟨hall'.out,fun h9=>absurd (hkd.symm.trans h9) (by decide)⟩) hT.out.low):P:=h
theorem bk_R28T_tl2{P:Prop}(h:P:=by
 rw[hac.out]at TW;have k14:=CS _ TW.low;have hTW:=hid TW;have t1:=TW.one;have t2:=TW.two;clear TW T3;go_wp2_with (first
  | (refine wLG 55 rfl rfl t2 underlying55 rfl ?_ iac.out)
  | (refine wLG 55 rfl rfl t1 underlying55 rfl ?_ ixc.out))
 refine k14.mono ?_;rintro e w5 ⟨sb,rfl,hsb,hb5⟩;have T5:=hTW.step hb5;clear k14 hTW t1 t2;cases sb with
 |false=>
  go_wp2_with fail
  go_ret;exact Tells.no (fun h9=>by have:=hsb.2 (hRi.1 h9).2.1;cases this) T5.low
 | true=>
  have hal:=hid (hsb.1 rfl);have T5h:=hid T5;have k1:w5.cell? ⟨w.heap.size,1,none⟩=some (.int .i64 cz):=by rw[<-hcz.out];exact kc _ T5.one 1
  have k26:w5.cell? ⟨w.heap.size,26,none⟩=some (.string bs):=by rw[<-hbs.out];exact kc _ T5.one 26
  have k27:w5.cell? ⟨w.heap.size,27,none⟩=some (.int .i64 az):=by rw[<-haz.out];exact kc _ T5.one 27
  have k28:w5.cell? ⟨w.heap.size,28,none⟩=some (.int .i64 nz):=by rw[<-hnz.out];exact kc _ T5.one 28
  have k29:w5.cell? ⟨w.heap.size,29,none⟩=some (.slice x.hp.a pn x.hp.c):=by rw[<-hpn.out];exact kc _ T5.one 29
  replace hRi:Hid (R↔(0<=cz/\cz<=65535)/\bn<=10000/\pn<=255/\(0<=az/\az<=2)/\(-1<=nz/\nz<=65534)/\(∀z∈x.t.picks,0<=z/\z<=255)/\(x.t.kind=2->rightP x.t.pk)):=hid (by rw[hRi.out];exact⟨fun h=>h.2.2,fun h=>⟨by have:=hkd.out;omega,hal.out,h⟩⟩)
  clear hsb hb5;by_cases q1:cz<0
  ·have d1:decide (cz<0)=true:=decide_eq_true q1;go_wp2_with fail
   go_ret;exact Tells.no (fun h9=>by have:=hRi.1 h9;omega) T5.low
  have d1:decide (cz<0)=false:=decide_eq_false q1;by_cases q2:65535<cz
  ·have d2:decide (65535<cz)=true:=decide_eq_true q2;go_wp2_with fail
   go_ret;exact Tells.no (fun h9=>by have:=hRi.1 h9;omega) T5.low
  have d2:decide (65535<cz)=false:=decide_eq_false q2;by_cases q3:10000<bn
  ·have d3:decide (10000<(bn:Int))=true:=decide_eq_true (by omega);go_wp2_with fail
   go_ret;exact Tells.no (fun h9=>by have:=hRi.1 h9;omega) T5.low
  have d3:decide (10000<(bn:Int))=false:=decide_eq_false (by omega);by_cases q4:255<pn
  ·have d4:decide (255<(pn:Int))=true:=decide_eq_true (by omega);go_wp2_with fail
   go_ret;exact Tells.no (fun h9=>by have:=hRi.1 h9;omega) T5.low
  have d4:decide (255<(pn:Int))=false:=decide_eq_false (by omega);by_cases q5:az<0
  ·have d5:decide (az<0)=true:=decide_eq_true q5;go_wp2_with fail
   go_ret;exact Tells.no (fun h9=>by have:=hRi.1 h9;omega) T5.low
  have d5:decide (az<0)=false:=decide_eq_false q5;by_cases q6:2<az
  ·have d6:decide (2<az)=true:=decide_eq_true q6;go_wp2_with fail
   go_ret;exact Tells.no (fun h9=>by have:=hRi.1 h9;omega) T5.low
  have d6:decide (2<az)=false:=decide_eq_false q6;by_cases q7:nz< -1
  ·have d7:decide (nz< -1)=true:=decide_eq_true q7;go_wp2_with fail
   go_ret;exact Tells.no (fun h9=>by have:=hRi.1 h9;omega) T5.low
  have d7:decide (nz< -1)=false:=decide_eq_false q7;by_cases q8:65534<nz
  ·have d8:decide (65534<nz)=true:=decide_eq_true q8;go_wp2_with fail
   go_ret;exact Tells.no (fun h9=>by have:=hRi.1 h9;omega) T5.low
  have d8:decide (65534<nz)=false:=decide_eq_false q8;replace hRi:Hid (R↔(∀z∈x.t.picks,0<=z/\z<=255)/\(x.t.kind=2->rightP x.t.pk)):=hid (by rw[hRi.out];exact⟨fun h=>h.2.2.2.2.2,fun h=>⟨by omega,by omega,by omega,by omega,by omega,h⟩⟩)
  clear T5;go_wp2_with fail;clear k1 k26 k27 k28 k29 d1 d2 d3 d5 d6 d7 d8 q1 q2 q3 q5 q6 q7 q8;go_loopw [5] (fun i wr=>∃j:Nat,j<=pn/\i=.int .i64 j/\Hid (TnI w xc ac wr)/\Hid (∀z∈x.t.picks.take j,0<=z/\z<=255)) (fun i _=>pn-(intOf i).toNat)
  case atStart=>exact⟨0,Nat.zero_le _,by go_num,T5h,hid (by simp)⟩
  case round=>
   obtain⟨j,hj,rfl,hT,hall⟩:=hrel;obtain⟨wx,hwx⟩:∃W,W=wr:=⟨_,rfl⟩;subst hwx;have k29:wx.cell? ⟨w.heap.size,29,none⟩=some (.slice x.hp.a pn x.hp.c):=by rw[<-hpn.out];exact kc _ hT.out.one 29
   by_cases hjm:j<pn
   ·obtain⟨z,hz⟩:∃z,x.t.picks[j]?=some z:=⟨_,List.getElem?_eq_getElem (by rw[HIN.p.len,hpn.out];exact hjm)⟩;obtain⟨g,off,ha,hrg⟩:=HIN.p.range hz;have hc:=hrg wx hT.out.low 0 (.int .i64 z) rfl;rw[ha]at k29;simp only[Nat.mul_one,Nat.add_zero]at hc;have hzm:=List.mem_of_getElem? hz;have T6:=hT.out;by_cases y1:z<0
    ·have e1:decide (z<0)=true:=decide_eq_true y1;go_wp2_with fail
     go_ret;exact Tells.no (fun h9=>by have:=(hRi.1 h9).1 z hzm;omega) T6.low
    have e1:decide (z<0)=false:=decide_eq_false y1;by_cases y2:255<z
    ·have e2:decide (255<z)=true:=decide_eq_true y2;go_wp2_with fail
     go_ret;exact Tells.no (fun h9=>by have:=(hRi.1 h9).1 z hzm;omega) T6.low
    have e2:decide (255<z)=false:=decide_eq_false y2;clear T6 hrg;go_wp2_with fail;refine⟨⟨j+1,by omega,by go_num,hT,hid fun u hu=>?_⟩,by simp[intOf];omega⟩;rw[List.take_add_one,hz]at hu;rcases List.mem_append.1 hu with hu | hu
    ·exact hall.out u hu
    simp at hu;subst hu;omega
   obtain rfl:j=pn:=by omega
   have hall':Hid (∀z∈x.t.picks,0<=z/\z<=255):=hid (by
    have h9:=hall.out
    rwa [List.take_of_length_le (by rw[HIN.p.len,hpn.out];exact Nat.le_refl _)]at h9)
   have HP:=hid (Blk.mid hT.out.one [.int .i64 x.t.kind,.int .i64 x.t.conn] (x.t.pk.cells x.h) [.string ⟨x.t.bytes.toArray⟩,.int .i64 x.t.arm,.int .i64 x.t.n,.slice x.hp.a x.hp.n x.hp.c] (by rw[<-hxc.out];rfl));have HPk:=hid (HIN.pk.below hT.out.low);clear hall;go_wp2_with (refine wLmG 52 rfl rfl HP.out underlying52 ?_);refine(r16_Right x.t.pk x.h wx HPk.out (HS hkd.out)).mono ?_;rintro e w7 ⟨sb,rfl,hsb,hb7⟩;go_wp2_with fail
   go_ret;exact⟨sb,rfl,hsb.trans ⟨fun h9=>hRi.2 ⟨hall'.out,fun _=>h9⟩,fun h9=>(hRi.1 h9).2 hkd.out⟩,hT.out.low.trans (hb7.mono hT.out.low.size)⟩):P:=h
attribute [local go_sem] Oper.semAt_some
def aloneC(x:TnC):TnC:=⟨aloneT x.t,if x.t.kind=2 then x.h else h3Z,if x.t.kind=8 then x.hp else hdZ⟩
theorem aloneC_in{x:TnC}{w:World}(hx:x.t.In w x.h x.hp):(aloneC x).t.In w (aloneC x).h (aloneC x).hp:=by
 have z:∀t:Tn,t.pk.wants=[]/\t.pk.codes=[]/\t.pk.filters=[]/\t.picks=[]->t.In w h3Z hdZ:=by rintro t ⟨a,b,c,d⟩;exact⟨⟨by rw[a];exact LsAt.nil w,by rw[b];exact LsAt.nil w,by rw[c];exact LsAt.nil w⟩,by rw[d];exact LsAt.nil w⟩
 unfold aloneC aloneT;by_cases k2:x.t.kind=2
 ·simp only[if_pos k2,if_neg (show¬x.t.kind=8 by omega)];exact⟨hx.pk,LsAt.nil w⟩
 by_cases k3:x.t.kind=3
 ·simp only[if_neg k2,if_pos k3,if_neg (show¬x.t.kind=8 by omega)];exact z _ ⟨rfl,rfl,rfl,rfl⟩
 by_cases k7:x.t.kind=7
 ·simp only[if_neg k2,if_neg k3,if_pos k7,if_neg (show¬x.t.kind=8 by omega)];exact z _ ⟨rfl,rfl,rfl,rfl⟩
 by_cases k8:x.t.kind=8
 ·simp only[if_neg k2,if_neg k3,if_neg k7,if_pos k8];exact⟨⟨LsAt.nil w,LsAt.nil w,LsAt.nil w⟩,hx.p⟩
 simp only[if_neg k2,if_neg k3,if_neg k7,if_neg k8];split<;>exact z _ ⟨rfl,rfl,rfl,rfl⟩
structure TnI (w:World)(xc cs:Array Value)(W:World):Prop where
 low:Below w.heap.size w W
 one:Blk W w.heap.size xc 55
 two:Blk W (w.heap.size+1) cs 55
theorem TnI.step{w:World}{xc cs:Array Value}{W W':World}(h:TnI w xc cs W)(hb:Below W.heap.size W W'):TnI w xc cs W':=⟨h.low.trans (hb.mono h.low.size),h.one.below hb,h.two.below hb⟩
theorem TnI.put{w:World}{xc cs cs':Array Value}{W W':World}(h:TnI w xc cs W)(hb:Blk W' (w.heap.size+1) cs' 55)(hw:Wrote [w.heap.size+1] W W'):TnI w xc cs' W':=
 ⟨h.low.trans (hw.below h.low.size (by simp)),h.one.keepW hw (by simp),hb⟩
theorem r28_turn(x:TnC)(w:World)(hx:x.t.In w x.h x.hp)(hs:x.t.kind=2->PkS x.t.pk):Calls prog 36 #[.agg x.cells.toArray] w (Tells (rightT x.t) w):=by
 have hRi:=rightT_iff (t:=x.t);obtain⟨R,hR⟩:=gen_of (rightT x.t);rw[hR]at hRi ⊢;clear hR;have HIN:=hid hx;have HS:=hid hs;have CS:=hid (fun W (hb:Below w.heap.size w W)=>r28_SameTurn (aloneC x) x W (aloneC_in (x:=x) (hx.below hb)) (hx.below hb));obtain⟨xc,hxc⟩:=gen_of x.cells.toArray;obtain⟨ac,hac⟩:=gen_of ((aloneC x).cells.toArray);obtain⟨kd,hkd⟩:=gen_of x.t.kind;obtain⟨cz,hcz⟩:=gen_of x.t.conn;obtain⟨az,haz⟩:=gen_of x.t.arm;obtain⟨nz,hnz⟩:=gen_of x.t.n;obtain⟨bs,hbs⟩:=gen_of ((⟨x.t.bytes.toArray⟩:ByteArray):ByteArray);obtain⟨bn,hbn⟩:=gen_of x.t.bytes.length;obtain⟨pn,hpn⟩:=gen_of x.hp.n;have hsz:bs.size=bn:=by rw[<-hbs,<-hbn];simp[ByteArray.size]
 have ixc:Hid ((prog.info? 55).map (·.size)=some xc.size):=hid (by rw[<-hxc];exact(by kernel_rfl:(prog.info? 55).map (·.size)=some 30));have iac:Hid ((prog.info? 55).map (·.size)=some ac.size):=hid (by rw[<-hac];exact(by kernel_rfl:(prog.info? 55).map (·.size)=some 30));have kc:Hid (∀W,Blk W w.heap.size xc 55->∀i,W.cell? ⟨w.heap.size,i,none⟩=x.cells[i]?):=hid fun W hb i=>by rw[hb.cell,<-hxc];simp
 have hpll:x.t.picks.length=pn:=hx.p.len.trans hpn;rw[hcz,haz,hnz,hbn,hpll]at hRi;rw[hxc,hac]at CS;rw[hxc];have hB:Blk (w.alloc (.cells xc 55)) w.heap.size xc 55:=Blk.new _ _ _;have BN:Blk ((w.alloc (.cells xc 55)).alloc (.cells zTc 55)) (w.heap.size+1) zTc 55:=by have:=Blk.new (w.alloc (.cells xc 55)) zTc 55;simpa using this
 have B2:=hB.alloc (.cells zTc 55);have b2:Below w.heap.size w ((w.alloc (.cells xc 55)).alloc (.cells zTc 55)):=(bel_refl.alloc nat_le_rfl _).alloc (by simp) _;have k0:(w.alloc (.cells xc 55)).cell? ⟨w.heap.size,0,none⟩=some (.int .i64 kd):=by rw[<-hkd];exact kc _ hB 0
 have hone:=hid (Tn.one (zTn kd) h3Z hdZ);replace hRi:=hid hRi;obtain⟨pl,hpl2⟩:=gen_of (x.t.pk.cells x.h);have hpk:Hid (∀W,Blk W w.heap.size xc 55->W.rangeAt w.heap.size 2 pl):=hid fun W hb=>Blk.mid hb [.int .i64 x.t.kind,.int .i64 x.t.conn] pl [.string ⟨x.t.bytes.toArray⟩,.int .i64 x.t.arm,.int .i64 x.t.n,.slice x.hp.a x.hp.n x.hp.c] (by rw[<-hxc,<-hpl2];rfl);have ipl:Hid ((prog.info? 52).map (·.size)=some pl.length):=hid (by rw[<-hpl2];exact(by kernel_rfl:(prog.info? 52).map (·.size)=some 24));have hpz:Hid (pl.toArray.size=24):=hid (by rw[<-hpl2];rfl);have hpo:Hid (∀v∈pl.toArray.toList,v.oneCell'=true):=hid (by rw[<-hpl2];exact Pk.one _ _);have hpl:=hid hpl2;clear hpl2;replace hxc:=hid hxc;replace hac:=hid hac;replace hkd:=hid hkd;replace hcz:=hid hcz;replace haz:=hid haz;replace hnz:=hid hnz;replace hbs:=hid hbs;replace hbn:=hid hbn;replace hpn:=hid hpn;replace B2:=hid B2;replace b2:=hid b2;clear hx hs hB hpll;unfold zTc at BN;go_enter func36,ntmps36;go_upto_region 3 with(refine wS 55 30 rfl (w.heap.size+1) _ ((zTn kd).cells h3Z hdZ).toArray rfl rfl BN rfl rfl hone.out ?_;intro w3 hw3 hr3)
 have T3:TnI w xc ((zTn kd).cells h3Z hdZ).toArray w3:=⟨b2.trans (hr3.below b2.size (by simp)),B2.keepW hr3 (by simp),hw3⟩;have k0:w3.cell? ⟨w.heap.size,0,none⟩=some (.int .i64 kd):=by rw[<-hkd.out];exact kc _ T3.one 0
 have k1:w3.cell? ⟨w.heap.size,1,none⟩=some (.int .i64 cz):=by rw[<-hcz.out];exact kc _ T3.one 1
 clear hw3 hr3 BN b2 B2 hone;try simp only[PT]
 by_cases k1d:kd<1\/8<kd
 ·have T5:=T3;have hno:Hid (¬R):=hid (fun h9=>by have:=(hRi.1 h9).1;have:=hkd.out;omega);have e2:(kd==2)=false:=by simpa using(show kd≠2 by omega)
  have e3:(kd==3)=false:=by simpa using(show kd≠3 by omega)
  have e7:(kd==7)=false:=by simpa using(show kd≠7 by omega)
  have e8:(kd==8)=false:=by simpa using(show kd≠8 by omega)
  rcases k1d with h | h
  ·have d1:decide (1<=kd)=false:=decide_eq_false (by omega);have d2:decide (kd<1)=true:=decide_eq_true h;go_wp2_with fail
   go_ret;exact Tells.no hno.out T5.low
  have d1:decide (1<=kd)=true:=decide_eq_true (by omega);have d2:decide (kd<=4)=false:=decide_eq_false (by omega);have d3:decide (kd<1)=false:=decide_eq_false (by omega);have d4:decide (8<kd)=true:=decide_eq_true h;go_wp2_with fail
  go_ret;exact Tells.no hno.out T5.low
 have:kd=1\/kd=2\/kd=3\/kd=4\/kd=5\/kd=6\/kd=7\/kd=8:=by omega
 clear k1d;rcases this with rfl | rfl | rfl | rfl | rfl | rfl | rfl | rfl
 ·go_upto_region 14 with(refine wpList_store_cell rfl 2 55 _ _ rfl (fun w=>by kernel_rfl) (w.heap.size+1) 1 _ (.int .i64 cz) rfl rfl T3.two (by exact(by decide:1<30)) rfl rfl ?_;intro w4 hw4 hr4;have T4:=T3.put hw4 hr4;clear hw4 hr4)
  have TW:TnI w xc (aloneC x).cells.toArray w4:=by
   have e:aloneC x=⟨{zTn 1 with conn:=x.t.conn},h3Z,hdZ⟩:=by unfold aloneC aloneT;simp[hkd.out]
   rw[e,hcz.out];exact T4
  clear T4 k0 k1;try simp only[PT]
  exact bk_R28T_tl1
 ·go_upto_region 14 with(first
   | (refine wpList_store_cell rfl 2 55 _ _ rfl (fun w=>by kernel_rfl) (w.heap.size+1) 1 _ (.int .i64 cz) rfl rfl T3.two (by exact(by decide:1<30)) rfl rfl ?_;intro w4 hw4 hr4;have T4:=T3.put hw4 hr4;have r4:=hpk w4 T4.one;clear hw4 hr4)
   | (refine wLm 52 rfl rfl r4 underlying52 ?_ rfl rfl ipl.out)
   | (refine wpList_store_mid rfl 52 55 _ _ rfl 24 (fun w=>by kernel_rfl) (w.heap.size+1) 2 _ pl.toArray rfl rfl T4.two hpz.out (by exact(by decide:2+24<=30)) hpo.out ?_;intro w6 hw6 hr6))
  have T6:=T4.put hw6 hr6;have TW:TnI w xc (aloneC x).cells.toArray w6:=by
   have e:aloneC x=⟨{zTn 2 with conn:=x.t.conn,pk:=x.t.pk},x.h,hdZ⟩:=by unfold aloneC aloneT;simp[hkd.out]
   rw[e];rw[<-hpl.out,<-hcz.out]at T6;exact T6
  clear T4 T6 k0 k1 hw6 hr6 r4;try simp only[PT]
  exact bk_R28T_tl2
 ·go_upto_region 14 with(first
   | (refine wpList_store_cell rfl 2 55 _ _ rfl (fun w=>by kernel_rfl) (w.heap.size+1) 1 _ (.int .i64 cz) rfl rfl T3.two (by exact(by decide:1<30)) rfl rfl ?_;intro w4 hw4 hr4;have T4:=T3.put hw4 hr4;have r26:w4.cell? ⟨w.heap.size,26,none⟩=some (.string bs):=(by rw[<-hbs.out];exact kc _ T4.one 26);clear hw4 hr4)
   | (refine wpList_store_cell rfl 9 55 _ _ rfl (fun w=>by kernel_rfl) (w.heap.size+1) 26 _ (.string bs) rfl rfl T4.two (by exact(by decide:26<30)) rfl rfl ?_;intro w6 hw6 hr6))
  have T6:=T4.put hw6 hr6;have TW:TnI w xc (aloneC x).cells.toArray w6:=by
   have e:aloneC x=⟨{zTn 3 with conn:=x.t.conn,bytes:=x.t.bytes},h3Z,hdZ⟩:=by unfold aloneC aloneT;simp[hkd.out]
   rw[e];rw[<-hbs.out,<-hcz.out]at T6;exact T6
  clear T4 T6 k0 k1 hw6 hr6 r26;try simp only[PT]
  exact bk_R28T_tl1
 ·go_upto_region 14 with(refine wpList_store_cell rfl 2 55 _ _ rfl (fun w=>by kernel_rfl) (w.heap.size+1) 1 _ (.int .i64 cz) rfl rfl T3.two (by exact(by decide:1<30)) rfl rfl ?_;intro w4 hw4 hr4;have T4:=T3.put hw4 hr4;clear hw4 hr4)
  have TW:TnI w xc (aloneC x).cells.toArray w4:=by
   have e:aloneC x=⟨{zTn 4 with conn:=x.t.conn},h3Z,hdZ⟩:=by unfold aloneC aloneT;simp[hkd.out]
   rw[e,hcz.out];exact T4
  clear T4 k0 k1;try simp only[PT]
  exact bk_R28T_tl1
 ·go_upto_region 14 with fail
  have TW:TnI w xc (aloneC x).cells.toArray w3:=by
   have e:aloneC x=⟨zTn 5,h3Z,hdZ⟩:=by unfold aloneC aloneT;simp[hkd.out]
   rw[e];exact T3
  clear k0 k1;try simp only[PT]
  exact bk_R28T_tl1
 ·go_upto_region 14 with fail
  have TW:TnI w xc (aloneC x).cells.toArray w3:=by
   have e:aloneC x=⟨zTn 6,h3Z,hdZ⟩:=by unfold aloneC aloneT;simp[hkd.out]
   rw[e];exact T3
  clear k0 k1;try simp only[PT]
  exact bk_R28T_tl1
 ·go_upto_region 11 with fail
  try simp only[PT]
  have TD:=T3.step bel_refl.drew;refine regionQ [(1000,fun w'=>Blk w' w.heap.size xc 55)] (by kernel_rfl) ⟨TD.one,trivial⟩ fun KQ hKQ=>?_;try simp only[PT]
  obtain⟨WD,hWD⟩:=gen_of w3.drew;rw[hWD]at TD ⊢;clear hWD k0 k1;refine tQ [0] ?_;refine loadQ 1 rfl (by kernel_rfl) (by kernel_rfl) rfl rfl 0 rfl (by kernel_rfl) (.int .i64 az) (fun w' hf=>by(have k0:w'.cell? ⟨w.heap.size,27,none⟩=some (.int .i64 az):=(by rw[<-haz.out];exact kc _ hf 27);go_simp<;>with_reducible rfl)) ?_;simp only[PT];refine tQ [2] ?_;refine loadQ 3 rfl (by kernel_rfl) (by kernel_rfl) rfl rfl 0 rfl (by kernel_rfl) (.int .i64 nz) (fun w' hf=>by(have k0:w'.cell? ⟨w.heap.size,28,none⟩=some (.int .i64 nz):=(by rw[<-hnz.out];exact kc _ hf 28);go_simp<;>with_reducible rfl)) ?_;simp only[PT];refine tQ [4] ?_;refine sQ 5 fun K hK=>?_;simp only[GO];refine wp_store_cell 53 55 _ _ rfl (fun w=>by kernel_rfl) (w.heap.size+1) 27 _ (.int .i64 az) rfl rfl TD.two (by exact(by decide:27<30)) rfl rfl ?_;intro w4 hw4 hr4;have T4:=TD.put hw4 hr4;refine hK _ _ ⟨⟨fun _=>T4.one,trivial⟩,?_⟩;clear hK K;try simp only[PT]
  refine tQ [6] ?_;refine sQ 7 fun K hK=>?_;simp only[GO];refine wp_store_cell 3 55 _ _ rfl (fun w=>by kernel_rfl) (w.heap.size+1) 28 _ (.int .i64 nz) rfl rfl T4.two (by exact(by decide:28<30)) rfl rfl ?_;intro w6 hw6 hr6;have T6:=T4.put hw6 hr6;refine hK _ _ ⟨⟨fun _=>T6.one,trivial⟩,?_⟩;clear hK K;try simp only[PT]
  refine dQ (hKQ.out _ _ ?_);clear hKQ KQ;go_upto_region 14 with fail;have TW:TnI w xc (aloneC x).cells.toArray w6:=by
   have e:aloneC x=⟨{zTn 7 with arm:=x.t.arm,n:=x.t.n},h3Z,hdZ⟩:=by unfold aloneC aloneT;simp[hkd.out]
   rw[e];rw[<-haz.out,<-hnz.out]at T6;exact T6
  clear T4 T6 TD hw4 hr4 hw6 hr6;try simp only[PT]
  exact bk_R28T_tl1
 have r29:w3.cell? ⟨w.heap.size,29,none⟩=some (.slice x.hp.a pn x.hp.c):=by rw[<-hpn.out];exact kc _ T3.one 29
 go_upto_region 14 with(refine wpList_store_cell rfl 49 55 _ _ rfl (fun w=>by kernel_rfl) (w.heap.size+1) 29 _ (.slice x.hp.a pn x.hp.c) rfl rfl T3.two (by exact(by decide:29<30)) rfl rfl ?_;intro w6 hw6 hr6)
 have T6:=T3.put hw6 hr6;have TW:TnI w xc (aloneC x).cells.toArray w6:=by
  have e:aloneC x=⟨{zTn 8 with picks:=x.t.picks},h3Z,x.hp⟩:=by unfold aloneC aloneT;simp[hkd.out]
  rw[e];rw[<-hpn.out]at T6;exact T6
 clear T6 k0 k1 hw6 hr6 r29;try simp only[PT]
 exact bk_R28T_tl1
end
end Go.Proofs.YtkghejaimhoboaaGreatDoor
