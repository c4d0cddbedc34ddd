/- Parts of the proof of ScriptTurns. -/
import Derived.Test.YtkghejaimhoboaaGreatDoorPk35
import Derived.Test.YtkghejaimhoboaaGreatDoorPk36
import Derived.Test.YtkghejaimhoboaaGreatDoorPk21
set_option linter.unusedSimpArgs false
set_option linter.unusedVariables false
set_option maxRecDepth 100000
set_option maxHeartbeats 8000000
namespace Go.Proofs.YtkghejaimhoboaaGreatDoor
open Go.RowKit Go.Shelf Go.Proofs.Tryz
section
attribute [local go_sem] Oper.semAt_some
theorem aW.zero{α:Type}{f:α->List Value}{size:Nat}(w:World):aW f size w none 0 0 ([]:List α):=(eN.nil (f:=f) (size:=size) w []).eM
theorem MM{p:Pk}{h:H3}{w:World}(cd:p.In w h)(hk:1<=p.kind/\p.kind<=14):(aQ p).In w (cW p h):=by
 unfold aQ cW;have z:∀(q:Pk)(a b c:Hd),q.wants=[]->q.codes=[]->q.filters=[]->a=bQ->b=bQ->c=bQ->q.In w ⟨a,b,c⟩:=by
  rintro q a b c h1 h2 h3 rfl rfl rfl;refine⟨?_,?_,?_⟩
  ·rw[h1];exact aW.zero w
  ·rw[h2];exact aW.zero w
  rw[h3];exact aW.zero w
 by_cases k8:p.kind=8
 ·rw[if_neg (by omega),if_neg (by omega),if_neg (by omega),if_pos k8,if_pos k8,if_neg (by omega),if_neg (by omega)];exact⟨cd.lw,aW.zero w,aW.zero w⟩
 by_cases k9:p.kind=9
 ·rw[if_neg (by omega),if_neg (by omega),if_neg (by omega),if_neg k8,if_pos k9,if_neg k8,if_pos k9,if_neg (by omega)];exact⟨aW.zero w,cd.lc,aW.zero w⟩
 by_cases gI:p.kind=10
 ·rw[if_neg (by omega),if_neg (by omega),if_neg (by omega),if_neg k8,if_neg k9,if_pos gI,if_neg k8,if_neg k9,if_pos gI];exact⟨aW.zero w,aW.zero w,cd.lf⟩
 rw[if_neg k8,if_neg k9,if_neg gI,if_neg k8,if_neg k9,if_neg gI]
 repeat' split
 all_goals exact z _ _ _ _ rfl rfl rfl rfl rfl rfl
theorem jF(z a b:Int):within z a b=(decide (a<=z)&&decide (z<=b)):=rfl
theorem Um{p:Pk}(h:p.kind=1):bV p=oo p:=by unfold bV;rw[if_pos h]
theorem Un{p:Pk}(h:p.kind=2):bV p=uY p:=by unfold bV;rw[if_neg (by omega),if_pos h]
theorem Uo{p:Pk}(h:p.kind=3):bV p=fy p:=by unfold bV;rw[if_neg (by omega),if_neg (by omega),if_pos h]
theorem Up{p:Pk}(h:p.kind=8):bV p=(within p.id 1 65535&&dL p.wants cI):=by unfold bV;rw[if_neg (by omega),if_neg (by omega),if_neg (by omega),if_pos h]
theorem Uq{p:Pk}(h:p.kind=9):bV p=(within p.id 1 65535&&dL p.codes cY):=by unfold bV;rw[if_neg (by omega),if_neg (by omega),if_neg (by omega),if_neg (by omega),if_pos h]
theorem Pz{p:Pk}(h:p.kind=10):bV p=(within p.id 1 65535&&dL p.filters bU):=by unfold bV;rw[if_neg (by omega),if_neg (by omega),if_neg (by omega),if_neg (by omega),if_neg (by omega),if_pos h]
theorem vM{p:Pk}(h:p.kind=4\/p.kind=5\/p.kind=6\/p.kind=7\/p.kind=11):bV p=within p.id 1 65535:=by unfold bV;rw[if_neg (by omega),if_neg (by omega),if_neg (by omega),if_neg (by omega),if_neg (by omega),if_neg (by omega),if_pos (by omega)]
theorem EA{p:Pk}(h:12<=p.kind/\p.kind<=14):bV p=true:=by unfold bV;rw[if_neg (by omega),if_neg (by omega),if_neg (by omega),if_neg (by omega),if_neg (by omega),if_neg (by omega),if_neg (by omega)];exact decide_eq_true h
theorem aD.mD{R:Prop}{mp b:Bool}{w w':World}(hR:R↔mp=true)(h:mp=b)(hb:Below w.heap.size w w'):aD R w (.returned (.bool b)) w':=⟨b,rfl,by rw[hR,h],hb⟩
theorem EB{α:Type}{l:List α}{is:α->Bool}{k:Nat}{x:α}(h:l[k]?=some x)(hx:is x=false):dL l is=false:=by apply Bool.eq_false_iff.2;intro h2;have:=fA h2 x (List.mem_of_getElem? h);rw[hx]at this;cases this
theorem zg{α:Type}{l:List α}{is:α->Bool}(h:∀(j:Nat) x,l[j]?=some x->is x=true):dL l is=(decide (1<=l.length)&&decide (l.length<=8)):=by
 unfold dL;have:l.all is=true:=List.all_eq_true.2 fun x hx=>by obtain⟨j,hj⟩:=List.getElem?_of_mem hx;exact h j x hj
 rw[this,Bool.and_true]
theorem xP(p:Pk)(h:H3)(w:World)(cd:p.In w h)(hs:yT p):Calls prog 84 #[.agg (p.cells h).toArray] w (aD (aZ p) w):=by
 obtain⟨pc,bt⟩:=ae ((p.cells h).toArray);obtain⟨kd,dP⟩:=ae p.kind;have kc:Hid (∀W,ar W w.heap.size pc 52->∀i,W.cell? ⟨w.heap.size,i,none⟩=(p.cells h)[i]?):=af fun W hb i=>by rw[hb.cell,<-bt];simp
 have kk:Hid (∀W,ar W w.heap.size pc 52->W.cell? ⟨w.heap.size,0,none⟩=some (.int .i64 kd)):=af fun W hb=>by rw[<-dP];exact kc W hb 0
 have ic:Hid ((prog.info? 52).map (·.size)=some pc.size):=af (by rw[<-bt];exact(by kernel_rfl:(prog.info? 52).map (·.size)=some 24));have LY:=af (IJ.start w pc);have k0:=kk _ LY.pk;have qU:=af cd;have HS:=af hs;have CAL:=af (fun W (hk:1<=p.kind/\p.kind<=14)=>IY p h W hk);have CSM:=af (fun W (hb:Below w.heap.size w W) (hk:1<=p.kind/\p.kind<=14)=>Ay (aQ p) (cW p h) p h W (MM (cd.ag hb) hk) (cd.ag hb));have CCN:=af (fun W=>Bp p h W hs);obtain⟨R,hR⟩:=ae (aZ p);have hRk:Hid (R->1<=kd/\kd<=14):=af (fun h9=>by rw[<-dP];exact dH (by rw[hR];exact h9));have Yt:Hid (R↔bV p=true/\aQ p=p):=af (by rw[<-hR];exact Iff.rfl);rw[hR];rw[bt]at CAL CSM CCN ⊢;replace bt:=af bt;clear hR cd hs;go_enter func84,ntmps84;go_upto_region 2 with fail
 try simp only[PT]
 have HD:=LY.step ai.drew;refine aH [(1000,fun w'=>ar w' w.heap.size pc 52)] (by kernel_rfl) ⟨HD.pk,trivial⟩ fun KQ aL=>?_;try simp only[PT]
 obtain⟨WD,di⟩:=ae ((w.alloc (.cells pc 52)).drew);rw[di]at HD ⊢;clear di LY k0;have HDh:=af HD;by_cases k1:kd<1
 ·have d1:decide (kd<1)=true:=decide_eq_true k1;refine tQ [0,1,2] ?_;refine uQ 3 ?_;refine uQ 4 ?_;refine tQ [5,6] ?_;refine uQ 7 ?_;refine uQ 8 ?_;refine uQ 9 ?_;refine uQ 10 ?_;refine uQ 11 ?_;refine tQ [12] ?_;refine dQ (aL.out _ _ ?_);clear aL KQ;clear HD;go_wp2_with fail;go_ret;exact aD.no (fun h9=>by have:=(hRk h9).1;omega) HDh.ag
 have d1:decide (kd<1)=false:=decide_eq_false k1;by_cases Cj:14<kd
 ·have d14:decide (14<kd)=true:=decide_eq_true Cj;refine tQ [0,1,2,3,4,5,6] ?_;refine uQ 7 ?_;refine uQ 8 ?_;refine uQ 9 ?_;refine uQ 10 ?_;refine uQ 11 ?_;refine tQ [12] ?_;refine dQ (aL.out _ _ ?_);clear aL KQ;clear HD;go_wp2_with fail;go_ret;exact aD.no (fun h9=>by have:=(hRk h9).2;omega) HDh.ag
 have d14:decide (14<kd)=false:=decide_eq_false Cj;have Yu:Hid (1<=p.kind/\p.kind<=14):=af (by omega);refine tQ [0,1,2,3,4,5,6] ?_;refine aG 7 rfl (by kernel_rfl) (by kernel_rfl) rfl rfl 0 rfl (by kernel_rfl) (.agg pc) (fun w' hf=>by(exact aM hf 52 underlying52 rfl ic.out)) ?_;simp only[PT];refine aG 9 rfl (by kernel_rfl) (by kernel_rfl) rfl rfl 0 rfl (by kernel_rfl) (.agg pc) (fun w' hf=>by(exact aM hf 52 underlying52 rfl ic.out)) ?_;simp only[PT];refine sQ 8 fun K hK=>?_;simp only[GO];go_simp;refine(CAL WD Yu.out).mono ?_;rintro e w1 ⟨rfl,hb1⟩;have H1:=HD.step hb1;refine hK _ _ ⟨⟨fun _=>H1.pk,trivial⟩,?_⟩;clear hK K;try simp only[PT]
 refine sQ 10 fun K hK=>?_;simp only[GO];go_simp;refine(CSM w1 H1.ag Yu.out).mono ?_;rintro e w2 ⟨sb,rfl,eD,hb2⟩;have H2:=H1.step hb2;refine hK _ _ ⟨⟨fun _=>H2.pk,trivial⟩,?_⟩;clear hK K;try simp only[PT]
 refine tQ [11,12] ?_;refine dQ (aL.out _ _ ?_);clear aL KQ;replace H2:=af H2;replace eD:=af eD;clear HD HDh H1 hb1 hb2 CAL CSM;cases sb with
 |false=>
  go_wp2_with fail
  go_ret;exact aD.no (fun h9=>by have:=eD.2 (Yt.1 h9).2;cases this) H2.ag
 | true=>
  try simp only[Bool.not_true]
  have rH:=af (eD.1 rfl);obtain⟨mp,yM⟩:=ae (bV p);have mE:Hid (R↔mp=true):=af (by rw[Yt.out,yM];exact⟨fun h=>h.1,fun h=>⟨h,rH.out⟩⟩);have yM:=af yM;clear eD Yt;obtain⟨xe,pO⟩:=ae p.id;have k6:w2.cell? ⟨w.heap.size,6,none⟩=some (.int .i64 xe):=by rw[<-pO];exact kc _ H2.pk 6
  go_upto_region 4 with fail
  try simp only[PT]
  go_cut [4]from 32 (fun s4 wx=>s4=.bool (within xe 1 65535)/\w2=wx)
  case first=>
   by_cases i1:1<=xe
   ·have e1:decide (1<=xe)=true:=decide_eq_true i1;by_cases i2:xe<=65535
    ·have e2:decide (xe<=65535)=true:=decide_eq_true i2;go_wp2_with fail
     go_meet
     case rel=>exact⟨by rw[jF,e1,e2];rfl,rfl⟩
    have e2:decide (xe<=65535)=false:=decide_eq_false i2;go_wp2_with fail
    go_meet
    case rel=>exact⟨by rw[jF,e1,e2];rfl,rfl⟩
   have e1:decide (1<=xe)=false:=decide_eq_false i1;go_wp2_with fail
   go_meet
   case rel=>exact⟨by rw[jF,e1];rfl,rfl⟩
  case rest=>
   obtain⟨rfl,rfl⟩:=hcut;obtain⟨ib,hib⟩:=ae (within xe 1 65535);rw[hib];have hib:=af hib;clear k6;have:kd=1\/kd=2\/kd=3\/kd=4\/kd=5\/kd=6\/kd=7\/kd=8\/kd=9\/kd=10\/kd=11\/kd=12\/kd=13\/kd=14:=by omega
   clear d1 d14 k1 Cj;rcases this with rfl | rfl | rfl | rfl | rfl | rfl | rfl | rfl | rfl | rfl | rfl | rfl | rfl | rfl
   ·have hm:Hid (mp=oo p):=af (by rw[<-yM.out,Um dP]);have ta:=H2.pk;go_wp2_with (refine wL 52 rfl rfl ta underlying52 ?_ rfl rfl ic.out)
    refine(CCN _).mono ?_;rintro e w3 ⟨rfl,hb3⟩;have H3:=af (H2.step hb3);clear hb3 ta;go_wp2_with fail;go_ret;exact aD.mD mE.out hm.out H3.ag
   ·obtain⟨cz,dR⟩:=ae p.code;obtain⟨pr,ML⟩:=ae p.present;have hm:Hid (mp=(within cz 0 5&&(decide (cz=0)|| !pr))):=af (by rw[<-yM.out,Un dP,<-dR,<-ML];rfl);have Qx:w2.cell? ⟨w.heap.size,20,none⟩=some (.int .i64 cz):=by rw[<-dR];exact kc _ H2.pk 20
    have U4:w2.cell? ⟨w.heap.size,19,none⟩=some (.bool pr):=by rw[<-ML];exact kc _ H2.pk 19
    clear dR ML;by_cases c1:0<=cz
    ·have e1:decide (0<=cz)=true:=decide_eq_true c1;by_cases c2:cz<=5
     ·have e2:decide (cz<=5)=true:=decide_eq_true c2;cases pr with
      |false=>
       go_wp2_with fail
       go_ret;exact aD.mD mE.out (by rw[hm,jF,e1,e2];simp) H2.ag
      | true=>
       by_cases c0:cz=0
       ·subst c0;go_wp2_with fail
        go_ret;exact aD.mD mE.out (by rw[hm];rfl) H2.ag
       have e0:(cz==0)=false:=by simpa using c0
       go_wp2_with fail
       go_ret;exact aD.mD mE.out (by rw[hm,decide_eq_false c0];simp) H2.ag
     have e2:decide (cz<=5)=false:=decide_eq_false c2;go_wp2_with fail
     go_ret;exact aD.mD mE.out (by rw[hm,jF,e2];simp) H2.ag
    have e1:decide (0<=cz)=false:=decide_eq_false c1;go_wp2_with fail
    go_ret;exact aD.mD mE.out (by rw[hm,jF,e1];simp) H2.ag
   ·obtain⟨qz,JI⟩:=ae p.qos;obtain⟨du,PA⟩:=ae p.dup;have hm:Hid (mp=(en p.topic&&decide (p.body.length<=2000)&&within qz 0 2&&((decide (qz=0)&&decide (xe=0)&& !du)||(decide (0<qz)&&ib)))):=af (by rw[<-yM.out,Uo dP,<-JI,<-PA,<-hib.out,<-pO];rfl);have CN:=af (fun W=>xr p.topic W (by have:=HS.topic;omega));have hbl:=HS.body;have pq:ByteArray.size ⟨p.body.toArray⟩=p.body.length:=by simp[ByteArray.size]
    obtain⟨nm,vZ⟩:=ae (en p.topic);rw[vZ]at CN hm;obtain⟨n,hn⟩:=ae p.body.length;obtain⟨bb,lN⟩:=ae ((⟨p.body.toArray⟩:ByteArray):ByteArray);rw[hn]at hm pq hbl;have T9:Hid (∀W,ar W w.heap.size pc 52->W.cell? ⟨w.heap.size,5,none⟩=some (.string bb)/\W.cell? ⟨w.heap.size,3,none⟩=some (.int .i64 qz)/\W.cell? ⟨w.heap.size,1,none⟩=some (.bool du)/\W.cell? ⟨w.heap.size,6,none⟩=some (.int .i64 xe)):=af fun W hb=>⟨by rw[<-lN];exact kc _ hb 5,by rw[<-JI];exact kc _ hb 3,by rw[<-PA];exact kc _ hb 1,by rw[<-pO];exact kc _ hb 6⟩;rw[lN]at pq;have k4:w2.cell? ⟨w.heap.size,4,none⟩=some (.string ⟨p.topic.toArray⟩):=kc _ H2.pk 4;clear vZ hn lN JI PA;go_wp2_with fail;refine(CN _).mono ?_;rintro e w3 ⟨rfl,hb3⟩;have H3:=af (H2.step hb3);have k5:=(T9 _ H3.pk).1;have k3:=(T9 _ H3.pk).2.1;have j1:=(T9 _ H3.pk).2.2.1;have j6:=(T9 _ H3.pk).2.2.2;clear hb3 k4 CN;cases nm with
    |false=>
     go_wp2_with fail
     go_ret;exact aD.mD mE.out (by rw[hm];rfl) H3.ag
    | true=>
     by_cases h2:2000<n
     ·have d:decide (2000<(n:Int))=true:=decide_eq_true (by omega);go_wp2_with fail
      go_ret;exact aD.mD mE.out (by rw[hm,show decide (n<=2000)=false from decide_eq_false (by omega)];rfl) H3.ag
     have d:decide (2000<(n:Int))=false:=decide_eq_false (by omega);have pR:decide (n<=2000)=true:=decide_eq_true (by omega);by_cases h3:qz<0
     ·have d3:decide (qz<0)=true:=decide_eq_true h3;go_wp2_with fail
      go_ret;exact aD.mD mE.out (by rw[hm,show within qz 0 2=false from by unfold within;simp;omega];simp) H3.ag
     have d3:decide (qz<0)=false:=decide_eq_false h3;by_cases h4:2<qz
     ·have d4:decide (2<qz)=true:=decide_eq_true h4;go_wp2_with fail
      go_ret;exact aD.mD mE.out (by rw[hm,show within qz 0 2=false from by unfold within;simp;omega];simp) H3.ag
     have d4:decide (2<qz)=false:=decide_eq_false h4;have kg:Hid (mp=((decide (qz=0)&&decide (xe=0)&& !du)||(decide (0<qz)&&ib))):=af (by rw[hm,pR,show within qz 0 2=true from by unfold within;simp;omega];rfl);clear hm pR;by_cases h5:0<qz
     ·have d5:decide (0<qz)=true:=decide_eq_true h5;have d6:(qz==0)=false:=by simpa using(show qz≠0 by omega)
      have ow:Hid (mp=ib):=af (by rw[kg,d5,decide_eq_false (show¬qz=0 by omega)];simp);cases ib<;>
      ·go_wp2_with fail
       go_ret;exact aD.mD mE.out ow.out H3.ag
     obtain rfl:qz=0:=by omega
     have ow:Hid (mp=(decide (xe=0)&& !du)):=af (by rw[kg];simp);by_cases h7:xe=0
     ·subst h7;have I9:Hid (mp= !du):=af (by rw[ow];rfl);cases du<;>
      ·go_wp2_with fail
       go_ret;exact aD.mD mE.out I9.out H3.ag
     have d7:(xe==0)=false:=by simpa using h7
     have I9:Hid (mp=false):=af (by rw[ow,decide_eq_false h7];rfl);go_wp2_with fail
     go_ret;exact aD.mD mE.out I9.out H3.ag
   ·have hm:Hid (mp=ib):=af (by rw[<-yM.out,vM (by omega),pO];exact hib.out);go_wp2_with fail
    go_ret;exact aD.mD mE.out hm.out H2.ag
   ·have hm:Hid (mp=ib):=af (by rw[<-yM.out,vM (by omega),pO];exact hib.out);go_wp2_with fail
    go_ret;exact aD.mD mE.out hm.out H2.ag
   ·have hm:Hid (mp=ib):=af (by rw[<-yM.out,vM (by omega),pO];exact hib.out);go_wp2_with fail
    go_ret;exact aD.mD mE.out hm.out H2.ag
   ·have hm:Hid (mp=ib):=af (by rw[<-yM.out,vM (by omega),pO];exact hib.out);go_wp2_with fail
    go_ret;exact aD.mD mE.out hm.out H2.ag
   ·have hm:Hid (mp=(ib&&dL p.wants cI)):=af (by rw[<-yM.out,Up dP,pO,hib.out]);have Yv:h.w.n<=9223372036854775807:=by have h1:=qU.lw.le;have h2:=qU.lw.max;unfold maxLen at h2;omega
    have Vo:Hid (∀W,ar W w.heap.size pc 52->W.cell? ⟨w.heap.size,21,none⟩=some (.slice h.w.a h.w.n h.w.c)):=af fun W hb=>kc.out _ hb 21;go_wp2_with fail
    go_loopw [5] (fun i wr=>∃k:Nat,i=.int .i64 k/\k<=h.w.n/\Hid (IJ w pc wr)/\Hid (∀(j:Nat) x,p.wants[j]?=some x->j<k->cI x=true)) (fun i _=>h.w.n-(intOf i).toNat)
    case atStart=>exact⟨0,by go_num,Nat.zero_le _,H2,af fun j x _ hj=>absurd hj (by omega)⟩
    case round=>
     obtain⟨k,rfl,zH,HK,hall⟩:=hrel;obtain⟨wx,hwx⟩:∃W,W=wr:=⟨_,rfl⟩;subst hwx;have kl:=Vo _ HK.out.pk;clear H2;rcases Nat.lt_or_ge k h.w.n with hlt | jw
     ·obtain⟨x,hx⟩:∃x,p.wants[k]?=some x:=⟨_,List.getElem?_eq_getElem (by rw[qU.lw.len];exact hlt)⟩;obtain⟨g,off,ha,hrg⟩:=qU.lw.range hx;have hno:Hid (cI x=false->mp=false):=af fun h9=>by rw[hm,EB hx h9];simp
      have cq:Hid (cI x=true->∀(j:Nat) y,p.wants[j]?=some y->j<k+1->cI y=true):=af fun h9 j y hj hjk=>by
       by_cases MN:j=k
       ·subst MN;rw[hx]at hj;cases hj;exact h9
       exact hall.out j y hj (by omega)
      rw[ha]at kl;have ha:=af ha;have CF:=af (fun W=>sw x.filter W (by have:=HS.wants x (List.mem_of_getElem? hx);omega));obtain⟨qz,JI⟩:=ae x.qos;have jy:x.cl=[.string ⟨x.filter.toArray⟩,.int .i64 qz]:=by unfold bM.cl;rw[JI]
      rw[jy]at hrg;have hrg:=af hrg;have kf:wx.cell? ⟨g,off+k*2,none⟩=some (.string ⟨x.filter.toArray⟩):=by simpa using hrg.out wx HK.out.ag 0 _ rfl
      obtain⟨fb,Gm⟩:=ae (bU x.filter);have FH:Hid (cI x=(fb&&within qz 0 2)):=af (by unfold cI;rw[Gm,JI]);rw[Gm]at CF;replace hx:=af hx;replace JI:=af JI;clear Gm jy;go_wp2_with fail;refine(CF _).mono ?_;rintro e w3 ⟨rfl,hb3⟩;have H3:=af (HK.out.step hb3);have kl3:=Vo _ H3.pk;rw[ha.out]at kl3;have kq:w3.cell? ⟨g,off+k*2+1,none⟩=some (.int .i64 qz):=by simpa using hrg.out w3 H3.ag 1 _ rfl
      clear hb3 kf kl CF HK;cases fb with
      |false=>
       go_wp2_with fail
       go_ret;exact aD.mD mE.out (hno (by rw[FH];rfl)) H3.ag
      | true=>
       by_cases q1:qz<0
       ·have e1:decide (qz<0)=true:=decide_eq_true q1;go_wp2_with fail
        go_ret;exact aD.mD mE.out (hno (by rw[FH];unfold within;simp;omega)) H3.ag
       have e1:decide (qz<0)=false:=decide_eq_false q1;by_cases q2:2<qz
       ·have e2:decide (2<qz)=true:=decide_eq_true q2;go_wp2_with fail
        go_ret;exact aD.mD mE.out (hno (by rw[FH];unfold within;simp;omega)) H3.ag
       have e2:decide (2<qz)=false:=decide_eq_false q2;have hy:=af (cq (by rw[FH];unfold within;simp;omega));clear hno cq FH;go_wp2_with fail;try simp only[PT]
       go_roundw
       case rel=>exact⟨k+1,by go_num,by omega,H3,hy⟩
       case measure=>simp[intOf];omega
     obtain rfl:k=h.w.n:=by omega
     have mK:dL p.wants cI=(decide (1<=h.w.n)&&decide (h.w.n<=8)):=by rw[<-qU.lw.len];refine zg fun j x hj=>hall.out j x hj ?_;rw[<-qU.lw.len];exact(List.getElem?_eq_some_iff.1 hj).1
     have kg:Hid (mp=(ib&&(decide (1<=h.w.n)&&decide (h.w.n<=8)))):=af (by rw[hm,mK]);clear mK jw zH;cases ib with
     |false=>
      go_wp2_with fail
      go_ret;exact aD.mD mE.out (by rw[kg];rfl) HK.out.ag
     | true=>
      by_cases q1:1<=h.w.n
      ·have e1:decide (1<=(h.w.n:Int))=true:=decide_eq_true (by omega);by_cases q2:h.w.n<=8
       ·have e2:decide ((h.w.n:Int)<=8)=true:=decide_eq_true (by omega);have ow:Hid (mp=true):=af (by rw[kg,decide_eq_true q1,decide_eq_true q2];rfl);go_wp2_with fail
        go_ret;exact aD.mD mE.out ow.out HK.out.ag
       have e2:decide ((h.w.n:Int)<=8)=false:=decide_eq_false (by omega);have ow:Hid (mp=false):=af (by rw[kg,decide_eq_false q2];simp);go_wp2_with fail
       go_ret;exact aD.mD mE.out ow.out HK.out.ag
      have e1:decide (1<=(h.w.n:Int))=false:=decide_eq_false (by omega);have ow:Hid (mp=false):=af (by rw[kg,decide_eq_false q1];simp);go_wp2_with fail
      go_ret;exact aD.mD mE.out ow.out HK.out.ag
   ·have hm:Hid (mp=(ib&&dL p.codes cY)):=af (by rw[<-yM.out,Uq dP,pO,hib.out]);have Yv:h.c.n<=9223372036854775807:=by have h1:=qU.lc.le;have h2:=qU.lc.max;unfold maxLen at h2;omega
    have Vo:Hid (∀W,ar W w.heap.size pc 52->W.cell? ⟨w.heap.size,22,none⟩=some (.slice h.c.a h.c.n h.c.c)):=af fun W hb=>kc.out _ hb 22;go_wp2_with fail
    go_loopw [6] (fun i wr=>∃k:Nat,i=.int .i64 k/\k<=h.c.n/\Hid (IJ w pc wr)/\Hid (∀(j:Nat) x,p.codes[j]?=some x->j<k->cY x=true)) (fun i _=>h.c.n-(intOf i).toNat)
    case atStart=>exact⟨0,by go_num,Nat.zero_le _,H2,af fun j x _ hj=>absurd hj (by omega)⟩
    case round=>
     obtain⟨k,rfl,zH,HK,hall⟩:=hrel;obtain⟨wx,hwx⟩:∃W,W=wr:=⟨_,rfl⟩;subst hwx;have kl:=Vo _ HK.out.pk;clear H2;rcases Nat.lt_or_ge k h.c.n with hlt | jw
     ·obtain⟨x,hx⟩:∃x,p.codes[k]?=some x:=⟨_,List.getElem?_eq_getElem (by rw[qU.lc.len];exact hlt)⟩;obtain⟨g,off,ha,hrg⟩:=qU.lc.range hx;have hno:Hid (cY x=false->mp=false):=af fun h9=>by rw[hm,EB hx h9];simp
      have cq:Hid (cY x=true->∀(j:Nat) y,p.codes[j]?=some y->j<k+1->cY y=true):=af fun h9 j y hj hjk=>by
       by_cases MN:j=k
       ·subst MN;rw[hx]at hj;cases hj;exact h9
       exact hall.out j y hj (by omega)
      rw[ha]at kl;have ha:=af ha;have kf:wx.cell? ⟨g,off+k,none⟩=some (.int .i64 x):=by simpa using hrg wx HK.out.ag 0 _ rfl
      have FH:Hid (cY x=(within x 0 2||decide (x=128))):=af rfl;replace hx:=af hx;clear hrg;by_cases c0:x=0
      ·subst c0;have hy:=af (cq rfl);clear hno cq FH;go_wp2_with fail;refine⟨⟨k+1,by go_num,by omega,HK,hy⟩,by simp[intOf];omega⟩
      by_cases c1:x=1
      ·subst c1;have hy:=af (cq rfl);clear hno cq FH;go_wp2_with fail;refine⟨⟨k+1,by go_num,by omega,HK,hy⟩,by simp[intOf];omega⟩
      by_cases c2:x=2
      ·subst c2;have hy:=af (cq rfl);clear hno cq FH;go_wp2_with fail;refine⟨⟨k+1,by go_num,by omega,HK,hy⟩,by simp[intOf];omega⟩
      by_cases c3:x=128
      ·subst c3;have hy:=af (cq rfl);clear hno cq FH;go_wp2_with fail;refine⟨⟨k+1,by go_num,by omega,HK,hy⟩,by simp[intOf];omega⟩
      have e0:(x !=0)=true:=by simpa using c0
      have e1:(x !=1)=true:=by simpa using c1
      have e2:(x !=2)=true:=by simpa using c2
      have e3:(x !=128)=true:=by simpa using c3
      have eK:=af (hno (by rw[FH];unfold within;simp;omega));clear hno cq FH;go_wp2_with fail;go_ret;exact aD.mD mE.out eK.out HK.out.ag
     obtain rfl:k=h.c.n:=by omega
     have mK:dL p.codes cY=(decide (1<=h.c.n)&&decide (h.c.n<=8)):=by rw[<-qU.lc.len];refine zg fun j x hj=>hall.out j x hj ?_;rw[<-qU.lc.len];exact(List.getElem?_eq_some_iff.1 hj).1
     have kg:Hid (mp=(ib&&(decide (1<=h.c.n)&&decide (h.c.n<=8)))):=af (by rw[hm,mK]);clear mK jw zH;cases ib with
     |false=>
      go_wp2_with fail
      go_ret;exact aD.mD mE.out (by rw[kg];rfl) HK.out.ag
     | true=>
      by_cases q1:1<=h.c.n
      ·have e1:decide (1<=(h.c.n:Int))=true:=decide_eq_true (by omega);by_cases q2:h.c.n<=8
       ·have e2:decide ((h.c.n:Int)<=8)=true:=decide_eq_true (by omega);have ow:Hid (mp=true):=af (by rw[kg,decide_eq_true q1,decide_eq_true q2];rfl);go_wp2_with fail
        go_ret;exact aD.mD mE.out ow.out HK.out.ag
       have e2:decide ((h.c.n:Int)<=8)=false:=decide_eq_false (by omega);have ow:Hid (mp=false):=af (by rw[kg,decide_eq_false q2];simp);go_wp2_with fail
       go_ret;exact aD.mD mE.out ow.out HK.out.ag
      have e1:decide (1<=(h.c.n:Int))=false:=decide_eq_false (by omega);have ow:Hid (mp=false):=af (by rw[kg,decide_eq_false q1];simp);go_wp2_with fail
      go_ret;exact aD.mD mE.out ow.out HK.out.ag
   ·have hm:Hid (mp=(ib&&dL p.filters bU)):=af (by rw[<-yM.out,Pz dP,pO,hib.out]);have Yv:h.f.n<=9223372036854775807:=by have h1:=qU.lf.le;have h2:=qU.lf.max;unfold maxLen at h2;omega
    have Vo:Hid (∀W,ar W w.heap.size pc 52->W.cell? ⟨w.heap.size,23,none⟩=some (.slice h.f.a h.f.n h.f.c)):=af fun W hb=>kc.out _ hb 23;go_wp2_with fail
    go_loopw [8] (fun i wr=>∃k:Nat,i=.int .i64 k/\k<=h.f.n/\Hid (IJ w pc wr)/\Hid (∀(j:Nat) x,p.filters[j]?=some x->j<k->bU x=true)) (fun i _=>h.f.n-(intOf i).toNat)
    case atStart=>exact⟨0,by go_num,Nat.zero_le _,H2,af fun j x _ hj=>absurd hj (by omega)⟩
    case round=>
     obtain⟨k,rfl,zH,HK,hall⟩:=hrel;obtain⟨wx,hwx⟩:∃W,W=wr:=⟨_,rfl⟩;subst hwx;have kl:=Vo _ HK.out.pk;clear H2;rcases Nat.lt_or_ge k h.f.n with hlt | jw
     ·obtain⟨x,hx⟩:∃x,p.filters[k]?=some x:=⟨_,List.getElem?_eq_getElem (by rw[qU.lf.len];exact hlt)⟩;obtain⟨g,off,ha,hrg⟩:=qU.lf.range hx;have hno:Hid (bU x=false->mp=false):=af fun h9=>by rw[hm,EB hx h9];simp
      have cq:Hid (bU x=true->∀(j:Nat) y,p.filters[j]?=some y->j<k+1->bU y=true):=af fun h9 j y hj hjk=>by
       by_cases MN:j=k
       ·subst MN;rw[hx]at hj;cases hj;exact h9
       exact hall.out j y hj (by omega)
      rw[ha]at kl;have ha:=af ha;have CF:=af (fun W=>sw x W (by have:=HS.filters x (List.mem_of_getElem? hx);omega));have kf:wx.cell? ⟨g,off+k,none⟩=some (.string ⟨x.toArray⟩):=by simpa using hrg wx HK.out.ag 0 _ rfl
      obtain⟨fb,Gm⟩:=ae (bU x);rw[Gm]at CF;replace hx:=af hx;replace Gm:=af Gm;clear hrg;go_wp2_with fail;refine(CF _).mono ?_;rintro e w3 ⟨rfl,hb3⟩;have H3:=af (HK.out.step hb3);clear hb3 kf kl CF HK;cases fb with
      |false=>
       go_wp2_with fail
       go_ret;exact aD.mD mE.out (hno Gm.out) H3.ag
      |true=>
       have hy:=af (cq Gm.out);clear hno cq;go_wp2_with fail;try simp only[PT]
       go_roundw
       case rel=>exact⟨k+1,by go_num,by omega,H3,hy⟩
       case measure=>simp[intOf];omega
     obtain rfl:k=h.f.n:=by omega
     have mK:dL p.filters bU=(decide (1<=h.f.n)&&decide (h.f.n<=8)):=by rw[<-qU.lf.len];refine zg fun j x hj=>hall.out j x hj ?_;rw[<-qU.lf.len];exact(List.getElem?_eq_some_iff.1 hj).1
     have kg:Hid (mp=(ib&&(decide (1<=h.f.n)&&decide (h.f.n<=8)))):=af (by rw[hm,mK]);clear mK jw zH;cases ib with
     |false=>
      go_wp2_with fail
      go_ret;exact aD.mD mE.out (by rw[kg];rfl) HK.out.ag
     | true=>
      by_cases q1:1<=h.f.n
      ·have e1:decide (1<=(h.f.n:Int))=true:=decide_eq_true (by omega);by_cases q2:h.f.n<=8
       ·have e2:decide ((h.f.n:Int)<=8)=true:=decide_eq_true (by omega);have ow:Hid (mp=true):=af (by rw[kg,decide_eq_true q1,decide_eq_true q2];rfl);go_wp2_with fail
        go_ret;exact aD.mD mE.out ow.out HK.out.ag
       have e2:decide ((h.f.n:Int)<=8)=false:=decide_eq_false (by omega);have ow:Hid (mp=false):=af (by rw[kg,decide_eq_false q2];simp);go_wp2_with fail
       go_ret;exact aD.mD mE.out ow.out HK.out.ag
      have e1:decide (1<=(h.f.n:Int))=false:=decide_eq_false (by omega);have ow:Hid (mp=false):=af (by rw[kg,decide_eq_false q1];simp);go_wp2_with fail
      go_ret;exact aD.mD mE.out ow.out HK.out.ag
   ·have hm:Hid (mp=ib):=af (by rw[<-yM.out,vM (by omega),pO];exact hib.out);go_wp2_with fail
    go_ret;exact aD.mD mE.out hm.out H2.ag
   ·have hm:Hid (mp=true):=af (by rw[<-yM.out,EA (by omega)]);go_wp2_with fail
    go_ret;exact aD.mD mE.out hm.out H2.ag
   ·have hm:Hid (mp=true):=af (by rw[<-yM.out,EA (by omega)]);go_wp2_with fail
    go_ret;exact aD.mD mE.out hm.out H2.ag
   skip;have hm:Hid (mp=true):=af (by rw[<-yM.out,EA (by omega)]);go_wp2_with fail
   go_ret;exact aD.mD mE.out hm.out H2.ag
end
section
theorem fH{P:Prop}(h:P:=by
 rw[vO.out]at TW;have Cj:=CS _ TW.low;have PE:=af TW;have t1:=TW.one;have t2:=TW.two;clear TW T3;go_wp2_with (first
  | (refine LG 55 rfl rfl t2 underlying55 rfl ?_ iac.out)
  | (refine LG 55 rfl rfl t1 underlying55 rfl ?_ ixc.out))
 refine Cj.mono ?_;rintro e w5 ⟨sb,rfl,eD,eF⟩;have T5:=PE.step eF;clear Cj PE t1 t2;cases sb with
 |false=>
  go_wp2_with fail
  go_ret;exact aD.no (fun h9=>by have:=eD.2 (jf.1 h9).2.1;cases this) T5.low
 | true=>
  have rH:=af (eD.1 rfl);have T5h:=af T5;have k1:w5.cell? ⟨w.heap.size,1,none⟩=some (.int .i64 cz):=by rw[<-dR.out];exact kc _ T5.one 1
  have OA:w5.cell? ⟨w.heap.size,26,none⟩=some (.string bs):=by rw[<-mF.out];exact kc _ T5.one 26
  have Jt:w5.cell? ⟨w.heap.size,27,none⟩=some (.int .i64 az):=by rw[<-Uw.out];exact kc _ T5.one 27
  have Nn:w5.cell? ⟨w.heap.size,28,none⟩=some (.int .i64 nz):=by rw[<-hnz.out];exact kc _ T5.one 28
  have Fx:w5.cell? ⟨w.heap.size,29,none⟩=some (.slice x.hp.a pn x.hp.c):=by rw[<-Jb.out];exact kc _ T5.one 29
  replace jf:Hid (R↔(0<=cz/\cz<=65535)/\bn<=10000/\pn<=255/\(0<=az/\az<=2)/\(-1<=nz/\nz<=65534)/\(∀z∈x.t.bf,0<=z/\z<=255)/\(x.t.kind=2->aZ x.t.pk)):=af (by rw[jf.out];exact⟨fun h=>h.2.2,fun h=>⟨by have:=dP.out;omega,rH.out,h⟩⟩)
  clear eD eF;by_cases q1:cz<0
  ·have d1:decide (cz<0)=true:=decide_eq_true q1;go_wp2_with fail
   go_ret;exact aD.no (fun h9=>by have:=jf.1 h9;omega) T5.low
  have d1:decide (cz<0)=false:=decide_eq_false q1;by_cases q2:65535<cz
  ·have d2:decide (65535<cz)=true:=decide_eq_true q2;go_wp2_with fail
   go_ret;exact aD.no (fun h9=>by have:=jf.1 h9;omega) T5.low
  have d2:decide (65535<cz)=false:=decide_eq_false q2;by_cases q3:10000<bn
  ·have d3:decide (10000<(bn:Int))=true:=decide_eq_true (by omega);go_wp2_with fail
   go_ret;exact aD.no (fun h9=>by have:=jf.1 h9;omega) T5.low
  have d3:decide (10000<(bn:Int))=false:=decide_eq_false (by omega);by_cases q4:255<pn
  ·have d4:decide (255<(pn:Int))=true:=decide_eq_true (by omega);go_wp2_with fail
   go_ret;exact aD.no (fun h9=>by have:=jf.1 h9;omega) T5.low
  have d4:decide (255<(pn:Int))=false:=decide_eq_false (by omega);by_cases q5:az<0
  ·have d5:decide (az<0)=true:=decide_eq_true q5;go_wp2_with fail
   go_ret;exact aD.no (fun h9=>by have:=jf.1 h9;omega) T5.low
  have d5:decide (az<0)=false:=decide_eq_false q5;by_cases q6:2<az
  ·have d6:decide (2<az)=true:=decide_eq_true q6;go_wp2_with fail
   go_ret;exact aD.no (fun h9=>by have:=jf.1 h9;omega) T5.low
  have d6:decide (2<az)=false:=decide_eq_false q6;by_cases q7:nz< -1
  ·have d7:decide (nz< -1)=true:=decide_eq_true q7;go_wp2_with fail
   go_ret;exact aD.no (fun h9=>by have:=jf.1 h9;omega) T5.low
  have d7:decide (nz< -1)=false:=decide_eq_false q7;by_cases q8:65534<nz
  ·have d8:decide (65534<nz)=true:=decide_eq_true q8;go_wp2_with fail
   go_ret;exact aD.no (fun h9=>by have:=jf.1 h9;omega) T5.low
  have d8:decide (65534<nz)=false:=decide_eq_false q8;replace jf:Hid (R↔(∀z∈x.t.bf,0<=z/\z<=255)/\(x.t.kind=2->aZ x.t.pk)):=af (by rw[jf.out];exact⟨fun h=>h.2.2.2.2.2,fun h=>⟨by omega,by omega,by omega,by omega,by omega,h⟩⟩)
  clear T5;go_wp2_with fail;clear k1 OA Jt Nn Fx d1 d2 d3 d5 d6 d7 d8 q1 q2 q3 q5 q6 q7 q8;go_loopw [5] (fun i wr=>∃j:Nat,j<=pn/\i=.int .i64 j/\Hid (BH w xc ac wr)/\Hid (∀z∈x.t.bf.take j,0<=z/\z<=255)) (fun i _=>pn-(intOf i).toNat)
  case atStart=>exact⟨0,Nat.zero_le _,by go_num,T5h,af (by simp)⟩
  case round=>
   obtain⟨j,hj,rfl,hT,hall⟩:=hrel;obtain⟨wx,hwx⟩:∃W,W=wr:=⟨_,rfl⟩;subst hwx;have Fx:wx.cell? ⟨w.heap.size,29,none⟩=some (.slice x.hp.a pn x.hp.c):=by rw[<-Jb.out];exact kc _ hT.out.one 29
   by_cases JY:j<pn
   ·obtain⟨z,hz⟩:∃z,x.t.bf[j]?=some z:=⟨_,List.getElem?_eq_getElem (by rw[qU.p.len,Jb.out];exact JY)⟩;obtain⟨g,off,ha,hrg⟩:=qU.p.range hz;have hc:=hrg wx hT.out.low 0 (.int .i64 z) rfl;rw[ha]at Fx;simp only[Nat.mul_one,Nat.add_zero]at hc;have YB:=List.mem_of_getElem? hz;have T6:=hT.out;by_cases y1:z<0
    ·have e1:decide (z<0)=true:=decide_eq_true y1;go_wp2_with fail
     go_ret;exact aD.no (fun h9=>by have:=(jf.1 h9).1 z YB;omega) T6.low
    have e1:decide (z<0)=false:=decide_eq_false y1;by_cases y2:255<z
    ·have e2:decide (255<z)=true:=decide_eq_true y2;go_wp2_with fail
     go_ret;exact aD.no (fun h9=>by have:=(jf.1 h9).1 z YB;omega) T6.low
    have e2:decide (255<z)=false:=decide_eq_false y2;clear T6 hrg;go_wp2_with fail;refine⟨⟨j+1,by omega,by go_num,hT,af fun u hu=>?_⟩,by simp[intOf];omega⟩;rw[List.take_add_one,hz]at hu;rcases List.mem_append.1 hu with hu | hu
    ·exact hall.out u hu
    simp at hu;subst hu;omega
   obtain rfl:j=pn:=by omega
   have MS:Hid (∀z∈x.t.bf,0<=z/\z<=255):=af (by
    have h9:=hall.out
    rwa [List.take_of_length_le (by rw[qU.p.len,Jb.out];exact Nat.le_refl _)]at h9)
   have HP:=af (ar.mid hT.out.one [.int .i64 x.t.kind,.int .i64 x.t.conn] (x.t.pk.cells x.h) [.string ⟨x.t.bytes.toArray⟩,.int .i64 x.t.arm,.int .i64 x.t.n,.slice x.hp.a x.hp.n x.hp.c] (by rw[<-cR.out];rfl));have HPk:=af (qU.pk.ag hT.out.low);clear hall;go_wp2_with fail;go_ret;exact aD.yes (jf.2 ⟨MS.out,fun h9=>absurd (dP.symm.trans h9) (by decide)⟩) hT.out.low):P:=h
theorem BI{P:Prop}(h:P:=by
 rw[vO.out]at TW;have Cj:=CS _ TW.low;have PE:=af TW;have t1:=TW.one;have t2:=TW.two;clear TW T3;go_wp2_with (first
  | (refine LG 55 rfl rfl t2 underlying55 rfl ?_ iac.out)
  | (refine LG 55 rfl rfl t1 underlying55 rfl ?_ ixc.out))
 refine Cj.mono ?_;rintro e w5 ⟨sb,rfl,eD,eF⟩;have T5:=PE.step eF;clear Cj PE t1 t2;cases sb with
 |false=>
  go_wp2_with fail
  go_ret;exact aD.no (fun h9=>by have:=eD.2 (jf.1 h9).2.1;cases this) T5.low
 | true=>
  have rH:=af (eD.1 rfl);have T5h:=af T5;have k1:w5.cell? ⟨w.heap.size,1,none⟩=some (.int .i64 cz):=by rw[<-dR.out];exact kc _ T5.one 1
  have OA:w5.cell? ⟨w.heap.size,26,none⟩=some (.string bs):=by rw[<-mF.out];exact kc _ T5.one 26
  have Jt:w5.cell? ⟨w.heap.size,27,none⟩=some (.int .i64 az):=by rw[<-Uw.out];exact kc _ T5.one 27
  have Nn:w5.cell? ⟨w.heap.size,28,none⟩=some (.int .i64 nz):=by rw[<-hnz.out];exact kc _ T5.one 28
  have Fx:w5.cell? ⟨w.heap.size,29,none⟩=some (.slice x.hp.a pn x.hp.c):=by rw[<-Jb.out];exact kc _ T5.one 29
  replace jf:Hid (R↔(0<=cz/\cz<=65535)/\bn<=10000/\pn<=255/\(0<=az/\az<=2)/\(-1<=nz/\nz<=65534)/\(∀z∈x.t.bf,0<=z/\z<=255)/\(x.t.kind=2->aZ x.t.pk)):=af (by rw[jf.out];exact⟨fun h=>h.2.2,fun h=>⟨by have:=dP.out;omega,rH.out,h⟩⟩)
  clear eD eF;by_cases q1:cz<0
  ·have d1:decide (cz<0)=true:=decide_eq_true q1;go_wp2_with fail
   go_ret;exact aD.no (fun h9=>by have:=jf.1 h9;omega) T5.low
  have d1:decide (cz<0)=false:=decide_eq_false q1;by_cases q2:65535<cz
  ·have d2:decide (65535<cz)=true:=decide_eq_true q2;go_wp2_with fail
   go_ret;exact aD.no (fun h9=>by have:=jf.1 h9;omega) T5.low
  have d2:decide (65535<cz)=false:=decide_eq_false q2;by_cases q3:10000<bn
  ·have d3:decide (10000<(bn:Int))=true:=decide_eq_true (by omega);go_wp2_with fail
   go_ret;exact aD.no (fun h9=>by have:=jf.1 h9;omega) T5.low
  have d3:decide (10000<(bn:Int))=false:=decide_eq_false (by omega);by_cases q4:255<pn
  ·have d4:decide (255<(pn:Int))=true:=decide_eq_true (by omega);go_wp2_with fail
   go_ret;exact aD.no (fun h9=>by have:=jf.1 h9;omega) T5.low
  have d4:decide (255<(pn:Int))=false:=decide_eq_false (by omega);by_cases q5:az<0
  ·have d5:decide (az<0)=true:=decide_eq_true q5;go_wp2_with fail
   go_ret;exact aD.no (fun h9=>by have:=jf.1 h9;omega) T5.low
  have d5:decide (az<0)=false:=decide_eq_false q5;by_cases q6:2<az
  ·have d6:decide (2<az)=true:=decide_eq_true q6;go_wp2_with fail
   go_ret;exact aD.no (fun h9=>by have:=jf.1 h9;omega) T5.low
  have d6:decide (2<az)=false:=decide_eq_false q6;by_cases q7:nz< -1
  ·have d7:decide (nz< -1)=true:=decide_eq_true q7;go_wp2_with fail
   go_ret;exact aD.no (fun h9=>by have:=jf.1 h9;omega) T5.low
  have d7:decide (nz< -1)=false:=decide_eq_false q7;by_cases q8:65534<nz
  ·have d8:decide (65534<nz)=true:=decide_eq_true q8;go_wp2_with fail
   go_ret;exact aD.no (fun h9=>by have:=jf.1 h9;omega) T5.low
  have d8:decide (65534<nz)=false:=decide_eq_false q8;replace jf:Hid (R↔(∀z∈x.t.bf,0<=z/\z<=255)/\(x.t.kind=2->aZ x.t.pk)):=af (by rw[jf.out];exact⟨fun h=>h.2.2.2.2.2,fun h=>⟨by omega,by omega,by omega,by omega,by omega,h⟩⟩)
  clear T5;go_wp2_with fail;clear k1 OA Jt Nn Fx d1 d2 d3 d5 d6 d7 d8 q1 q2 q3 q5 q6 q7 q8;go_loopw [5] (fun i wr=>∃j:Nat,j<=pn/\i=.int .i64 j/\Hid (BH w xc ac wr)/\Hid (∀z∈x.t.bf.take j,0<=z/\z<=255)) (fun i _=>pn-(intOf i).toNat)
  case atStart=>exact⟨0,Nat.zero_le _,by go_num,T5h,af (by simp)⟩
  case round=>
   obtain⟨j,hj,rfl,hT,hall⟩:=hrel;obtain⟨wx,hwx⟩:∃W,W=wr:=⟨_,rfl⟩;subst hwx;have Fx:wx.cell? ⟨w.heap.size,29,none⟩=some (.slice x.hp.a pn x.hp.c):=by rw[<-Jb.out];exact kc _ hT.out.one 29
   by_cases JY:j<pn
   ·obtain⟨z,hz⟩:∃z,x.t.bf[j]?=some z:=⟨_,List.getElem?_eq_getElem (by rw[qU.p.len,Jb.out];exact JY)⟩;obtain⟨g,off,ha,hrg⟩:=qU.p.range hz;have hc:=hrg wx hT.out.low 0 (.int .i64 z) rfl;rw[ha]at Fx;simp only[Nat.mul_one,Nat.add_zero]at hc;have YB:=List.mem_of_getElem? hz;have T6:=hT.out;by_cases y1:z<0
    ·have e1:decide (z<0)=true:=decide_eq_true y1;go_wp2_with fail
     go_ret;exact aD.no (fun h9=>by have:=(jf.1 h9).1 z YB;omega) T6.low
    have e1:decide (z<0)=false:=decide_eq_false y1;by_cases y2:255<z
    ·have e2:decide (255<z)=true:=decide_eq_true y2;go_wp2_with fail
     go_ret;exact aD.no (fun h9=>by have:=(jf.1 h9).1 z YB;omega) T6.low
    have e2:decide (255<z)=false:=decide_eq_false y2;clear T6 hrg;go_wp2_with fail;refine⟨⟨j+1,by omega,by go_num,hT,af fun u hu=>?_⟩,by simp[intOf];omega⟩;rw[List.take_add_one,hz]at hu;rcases List.mem_append.1 hu with hu | hu
    ·exact hall.out u hu
    simp at hu;subst hu;omega
   obtain rfl:j=pn:=by omega
   have MS:Hid (∀z∈x.t.bf,0<=z/\z<=255):=af (by
    have h9:=hall.out
    rwa [List.take_of_length_le (by rw[qU.p.len,Jb.out];exact Nat.le_refl _)]at h9)
   have HP:=af (ar.mid hT.out.one [.int .i64 x.t.kind,.int .i64 x.t.conn] (x.t.pk.cells x.h) [.string ⟨x.t.bytes.toArray⟩,.int .i64 x.t.arm,.int .i64 x.t.n,.slice x.hp.a x.hp.n x.hp.c] (by rw[<-cR.out];rfl));have HPk:=af (qU.pk.ag hT.out.low);clear hall;go_wp2_with (refine Ar 52 rfl rfl HP.out underlying52 ?_);refine(xP x.t.pk x.h wx HPk.out (HS dP.out)).mono ?_;rintro e w7 ⟨sb,rfl,eD,ou⟩;go_wp2_with fail
   go_ret;exact⟨sb,rfl,eD.trans ⟨fun h9=>jf.2 ⟨MS.out,fun _=>h9⟩,fun h9=>(jf.1 h9).2 dP.out⟩,hT.out.low.trans (ou.mono hT.out.low.size)⟩):P:=h
attribute [local go_sem] Oper.semAt_some
def cK(x:dE):dE:=⟨cZ x.t,if x.t.kind=2 then x.h else bo,if x.t.kind=8 then x.hp else bQ⟩
theorem Jc{x:dE}{w:World}(hx:x.t.In w x.h x.hp):(cK x).t.In w (cK x).h (cK x).hp:=by
 have z:∀t:Tn,t.pk.wants=[]/\t.pk.codes=[]/\t.pk.filters=[]/\t.bf=[]->t.In w bo bQ:=by rintro t ⟨a,b,c,d⟩;exact⟨⟨by rw[a];exact aW.nil w,by rw[b];exact aW.nil w,by rw[c];exact aW.nil w⟩,by rw[d];exact aW.nil w⟩
 unfold cK cZ;by_cases k2:x.t.kind=2
 ·simp only[if_pos k2,if_neg (show¬x.t.kind=8 by omega)];exact⟨hx.pk,aW.nil w⟩
 by_cases k3:x.t.kind=3
 ·simp only[if_neg k2,if_pos k3,if_neg (show¬x.t.kind=8 by omega)];exact z _ ⟨rfl,rfl,rfl,rfl⟩
 by_cases k7:x.t.kind=7
 ·simp only[if_neg k2,if_neg k3,if_pos k7,if_neg (show¬x.t.kind=8 by omega)];exact z _ ⟨rfl,rfl,rfl,rfl⟩
 by_cases k8:x.t.kind=8
 ·simp only[if_neg k2,if_neg k3,if_neg k7,if_pos k8];exact⟨⟨aW.nil w,aW.nil w,aW.nil w⟩,hx.p⟩
 simp only[if_neg k2,if_neg k3,if_neg k7,if_neg k8];split<;>exact z _ ⟨rfl,rfl,rfl,rfl⟩
structure BH (w:World)(xc cs:Array Value)(W:World):Prop where
 low:Below w.heap.size w W
 one:ar W w.heap.size xc 55
 two:ar W (w.heap.size+1) cs 55
theorem BH.step{w:World}{xc cs:Array Value}{W W':World}(h:BH w xc cs W)(hb:Below W.heap.size W W'):BH w xc cs W':=⟨h.low.trans (hb.mono h.low.size),h.one.ag hb,h.two.ag hb⟩
theorem BH.put{w:World}{xc cs cs':Array Value}{W W':World}(h:BH w xc cs W)(hb:ar W' (w.heap.size+1) cs' 55)(hw:ak [w.heap.size+1] W W'):BH w xc cs' W':=
 ⟨h.low.trans (hw.ag h.low.size (by simp)),h.one.aw hw (by simp),hb⟩
theorem MT(x:dE)(w:World)(hx:x.t.In w x.h x.hp)(hs:x.t.kind=2->yT x.t.pk):Calls prog 36 #[.agg x.cells.toArray] w (aD (eh x.t) w):=by
 have jf:=D6 (t:=x.t);obtain⟨R,hR⟩:=ae (eh x.t);rw[hR]at jf ⊢;clear hR;have qU:=af hx;have HS:=af hs;have CS:=af (fun W (hb:Below w.heap.size w W)=>qH (cK x) x W (Jc (x:=x) (hx.ag hb)) (hx.ag hb));obtain⟨xc,cR⟩:=ae x.cells.toArray;obtain⟨ac,vO⟩:=ae ((cK x).cells.toArray);obtain⟨kd,dP⟩:=ae x.t.kind;obtain⟨cz,dR⟩:=ae x.t.conn;obtain⟨az,Uw⟩:=ae x.t.arm;obtain⟨nz,hnz⟩:=ae x.t.n;obtain⟨bs,mF⟩:=ae ((⟨x.t.bytes.toArray⟩:ByteArray):ByteArray);obtain⟨bn,QW⟩:=ae x.t.bytes.length;obtain⟨pn,Jb⟩:=ae x.hp.n;have hsz:bs.size=bn:=by rw[<-mF,<-QW];simp[ByteArray.size]
 have ixc:Hid ((prog.info? 55).map (·.size)=some xc.size):=af (by rw[<-cR];exact(by kernel_rfl:(prog.info? 55).map (·.size)=some 30));have iac:Hid ((prog.info? 55).map (·.size)=some ac.size):=af (by rw[<-vO];exact(by kernel_rfl:(prog.info? 55).map (·.size)=some 30));have kc:Hid (∀W,ar W w.heap.size xc 55->∀i,W.cell? ⟨w.heap.size,i,none⟩=x.cells[i]?):=af fun W hb i=>by rw[hb.cell,<-cR];simp
 have YC:x.t.bf.length=pn:=hx.p.len.trans Jb;rw[dR,Uw,hnz,QW,YC]at jf;rw[cR,vO]at CS;rw[cR];have hB:ar (w.alloc (.cells xc 55)) w.heap.size xc 55:=ar.new _ _ _;have BN:ar ((w.alloc (.cells xc 55)).alloc (.cells i6 55)) (w.heap.size+1) i6 55:=by have:=ar.new (w.alloc (.cells xc 55)) i6 55;simpa using this
 have B2:=hB.alloc (.cells i6 55);have b2:Below w.heap.size w ((w.alloc (.cells xc 55)).alloc (.cells i6 55)):=(ai.alloc ah _).alloc (by simp) _;have k0:(w.alloc (.cells xc 55)).cell? ⟨w.heap.size,0,none⟩=some (.int .i64 kd):=by rw[<-dP];exact kc _ hB 0
 have aV:=af (Tn.one (ig kd) bo bQ);replace jf:=af jf;obtain⟨pl,xX⟩:=ae (x.t.pk.cells x.h);have Sk:Hid (∀W,ar W w.heap.size xc 55->W.rangeAt w.heap.size 2 pl):=af fun W hb=>ar.mid hb [.int .i64 x.t.kind,.int .i64 x.t.conn] pl [.string ⟨x.t.bytes.toArray⟩,.int .i64 x.t.arm,.int .i64 x.t.n,.slice x.hp.a x.hp.n x.hp.c] (by rw[<-cR,<-xX];rfl);have ipl:Hid ((prog.info? 52).map (·.size)=some pl.length):=af (by rw[<-xX];exact(by kernel_rfl:(prog.info? 52).map (·.size)=some 24));have Vs:Hid (pl.toArray.size=24):=af (by rw[<-xX];rfl);have hpo:Hid (∀v∈pl.toArray.toList,v.oneCell'=true):=af (by rw[<-xX];exact Pk.one _ _);have hpl:=af xX;clear xX;replace cR:=af cR;replace vO:=af vO;replace dP:=af dP;replace dR:=af dR;replace Uw:=af Uw;replace hnz:=af hnz;replace mF:=af mF;replace QW:=af QW;replace Jb:=af Jb;replace B2:=af B2;replace b2:=af b2;clear hx hs hB YC;unfold i6 at BN;go_enter func36,ntmps36;go_upto_region 3 with(refine wS 55 30 rfl (w.heap.size+1) _ ((ig kd).cells bo bQ).toArray rfl rfl BN rfl rfl aV.out ?_;intro w3 hw3 hr3)
 have T3:BH w xc ((ig kd).cells bo bQ).toArray w3:=⟨b2.trans (hr3.ag b2.size (by simp)),B2.aw hr3 (by simp),hw3⟩;have k0:w3.cell? ⟨w.heap.size,0,none⟩=some (.int .i64 kd):=by rw[<-dP.out];exact kc _ T3.one 0
 have k1:w3.cell? ⟨w.heap.size,1,none⟩=some (.int .i64 cz):=by rw[<-dR.out];exact kc _ T3.one 1
 clear hw3 hr3 BN b2 B2 aV;try simp only[PT]
 by_cases k1d:kd<1\/8<kd
 ·have T5:=T3;have hno:Hid (¬R):=af (fun h9=>by have:=(jf.1 h9).1;have:=dP.out;omega);have e2:(kd==2)=false:=by simpa using(show kd≠2 by omega)
  have e3:(kd==3)=false:=by simpa using(show kd≠3 by omega)
  have e7:(kd==7)=false:=by simpa using(show kd≠7 by omega)
  have e8:(kd==8)=false:=by simpa using(show kd≠8 by omega)
  rcases k1d with h | h
  ·have d1:decide (1<=kd)=false:=decide_eq_false (by omega);have d2:decide (kd<1)=true:=decide_eq_true h;go_wp2_with fail
   go_ret;exact aD.no hno.out T5.low
  have d1:decide (1<=kd)=true:=decide_eq_true (by omega);have d2:decide (kd<=4)=false:=decide_eq_false (by omega);have d3:decide (kd<1)=false:=decide_eq_false (by omega);have d4:decide (8<kd)=true:=decide_eq_true h;go_wp2_with fail
  go_ret;exact aD.no hno.out T5.low
 have:kd=1\/kd=2\/kd=3\/kd=4\/kd=5\/kd=6\/kd=7\/kd=8:=by omega
 clear k1d;rcases this with rfl | rfl | rfl | rfl | rfl | rfl | rfl | rfl
 ·go_upto_region 14 with(refine aq rfl 2 55 _ _ rfl (fun w=>by kernel_rfl) (w.heap.size+1) 1 _ (.int .i64 cz) rfl rfl T3.two (by exact(by decide:1<30)) rfl rfl ?_;intro w4 hw4 hr4;have T4:=T3.put hw4 hr4;clear hw4 hr4)
  have TW:BH w xc (cK x).cells.toArray w4:=by
   have e:cK x=⟨{ig 1 with conn:=x.t.conn},bo,bQ⟩:=by unfold cK cZ;simp[dP.out]
   rw[e,dR.out];exact T4
  clear T4 k0 k1;try simp only[PT]
  exact fH
 ·go_upto_region 14 with(first
   | (refine aq rfl 2 55 _ _ rfl (fun w=>by kernel_rfl) (w.heap.size+1) 1 _ (.int .i64 cz) rfl rfl T3.two (by exact(by decide:1<30)) rfl rfl ?_;intro w4 hw4 hr4;have T4:=T3.put hw4 hr4;have r4:=Sk w4 T4.one;clear hw4 hr4)
   | (refine sF 52 rfl rfl r4 underlying52 ?_ rfl rfl ipl.out)
   | (refine wpList_store_mid rfl 52 55 _ _ rfl 24 (fun w=>by kernel_rfl) (w.heap.size+1) 2 _ pl.toArray rfl rfl T4.two Vs.out (by exact(by decide:2+24<=30)) hpo.out ?_;intro w6 kh mL))
  have T6:=T4.put kh mL;have TW:BH w xc (cK x).cells.toArray w6:=by
   have e:cK x=⟨{ig 2 with conn:=x.t.conn,pk:=x.t.pk},x.h,bQ⟩:=by unfold cK cZ;simp[dP.out]
   rw[e];rw[<-hpl.out,<-dR.out]at T6;exact T6
  clear T4 T6 k0 k1 kh mL r4;try simp only[PT]
  exact BI
 ·go_upto_region 14 with(first
   | (refine aq rfl 2 55 _ _ rfl (fun w=>by kernel_rfl) (w.heap.size+1) 1 _ (.int .i64 cz) rfl rfl T3.two (by exact(by decide:1<30)) rfl rfl ?_;intro w4 hw4 hr4;have T4:=T3.put hw4 hr4;have r26:w4.cell? ⟨w.heap.size,26,none⟩=some (.string bs):=(by rw[<-mF.out];exact kc _ T4.one 26);clear hw4 hr4)
   | (refine aq rfl 9 55 _ _ rfl (fun w=>by kernel_rfl) (w.heap.size+1) 26 _ (.string bs) rfl rfl T4.two (by exact(by decide:26<30)) rfl rfl ?_;intro w6 kh mL))
  have T6:=T4.put kh mL;have TW:BH w xc (cK x).cells.toArray w6:=by
   have e:cK x=⟨{ig 3 with conn:=x.t.conn,bytes:=x.t.bytes},bo,bQ⟩:=by unfold cK cZ;simp[dP.out]
   rw[e];rw[<-mF.out,<-dR.out]at T6;exact T6
  clear T4 T6 k0 k1 kh mL r26;try simp only[PT]
  exact fH
 ·go_upto_region 14 with(refine aq rfl 2 55 _ _ rfl (fun w=>by kernel_rfl) (w.heap.size+1) 1 _ (.int .i64 cz) rfl rfl T3.two (by exact(by decide:1<30)) rfl rfl ?_;intro w4 hw4 hr4;have T4:=T3.put hw4 hr4;clear hw4 hr4)
  have TW:BH w xc (cK x).cells.toArray w4:=by
   have e:cK x=⟨{ig 4 with conn:=x.t.conn},bo,bQ⟩:=by unfold cK cZ;simp[dP.out]
   rw[e,dR.out];exact T4
  clear T4 k0 k1;try simp only[PT]
  exact fH
 ·go_upto_region 14 with fail
  have TW:BH w xc (cK x).cells.toArray w3:=by
   have e:cK x=⟨ig 5,bo,bQ⟩:=by unfold cK cZ;simp[dP.out]
   rw[e];exact T3
  clear k0 k1;try simp only[PT]
  exact fH
 ·go_upto_region 14 with fail
  have TW:BH w xc (cK x).cells.toArray w3:=by
   have e:cK x=⟨ig 6,bo,bQ⟩:=by unfold cK cZ;simp[dP.out]
   rw[e];exact T3
  clear k0 k1;try simp only[PT]
  exact fH
 ·go_upto_region 11 with fail
  try simp only[PT]
  have TD:=T3.step ai.drew;refine aH [(1000,fun w'=>ar w' w.heap.size xc 55)] (by kernel_rfl) ⟨TD.one,trivial⟩ fun KQ aL=>?_;try simp only[PT]
  obtain⟨WD,di⟩:=ae w3.drew;rw[di]at TD ⊢;clear di k0 k1;refine tQ [0] ?_;refine aG 1 rfl (by kernel_rfl) (by kernel_rfl) rfl rfl 0 rfl (by kernel_rfl) (.int .i64 az) (fun w' hf=>by(have k0:w'.cell? ⟨w.heap.size,27,none⟩=some (.int .i64 az):=(by rw[<-Uw.out];exact kc _ hf 27);go_simp<;>with_reducible rfl)) ?_;simp only[PT];refine tQ [2] ?_;refine aG 3 rfl (by kernel_rfl) (by kernel_rfl) rfl rfl 0 rfl (by kernel_rfl) (.int .i64 nz) (fun w' hf=>by(have k0:w'.cell? ⟨w.heap.size,28,none⟩=some (.int .i64 nz):=(by rw[<-hnz.out];exact kc _ hf 28);go_simp<;>with_reducible rfl)) ?_;simp only[PT];refine tQ [4] ?_;refine sQ 5 fun K hK=>?_;simp only[GO];refine aC 53 55 _ _ rfl (fun w=>by kernel_rfl) (w.heap.size+1) 27 _ (.int .i64 az) rfl rfl TD.two (by exact(by decide:27<30)) rfl rfl ?_;intro w4 hw4 hr4;have T4:=TD.put hw4 hr4;refine hK _ _ ⟨⟨fun _=>T4.one,trivial⟩,?_⟩;clear hK K;try simp only[PT]
  refine tQ [6] ?_;refine sQ 7 fun K hK=>?_;simp only[GO];refine aC 3 55 _ _ rfl (fun w=>by kernel_rfl) (w.heap.size+1) 28 _ (.int .i64 nz) rfl rfl T4.two (by exact(by decide:28<30)) rfl rfl ?_;intro w6 kh mL;have T6:=T4.put kh mL;refine hK _ _ ⟨⟨fun _=>T6.one,trivial⟩,?_⟩;clear hK K;try simp only[PT]
  refine dQ (aL.out _ _ ?_);clear aL KQ;go_upto_region 14 with fail;have TW:BH w xc (cK x).cells.toArray w6:=by
   have e:cK x=⟨{ig 7 with arm:=x.t.arm,n:=x.t.n},bo,bQ⟩:=by unfold cK cZ;simp[dP.out]
   rw[e];rw[<-Uw.out,<-hnz.out]at T6;exact T6
  clear T4 T6 TD hw4 hr4 kh mL;try simp only[PT]
  exact fH
 have r29:w3.cell? ⟨w.heap.size,29,none⟩=some (.slice x.hp.a pn x.hp.c):=by rw[<-Jb.out];exact kc _ T3.one 29
 go_upto_region 14 with(refine aq rfl 49 55 _ _ rfl (fun w=>by kernel_rfl) (w.heap.size+1) 29 _ (.slice x.hp.a pn x.hp.c) rfl rfl T3.two (by exact(by decide:29<30)) rfl rfl ?_;intro w6 kh mL)
 have T6:=T3.put kh mL;have TW:BH w xc (cK x).cells.toArray w6:=by
  have e:cK x=⟨{ig 8 with bf:=x.t.bf},bo,x.hp⟩:=by unfold cK cZ;simp[dP.out]
  rw[e];rw[<-Jb.out]at T6;exact T6
 clear T6 k0 k1 kh mL r29;try simp only[PT]
 exact fH
end
end Go.Proofs.YtkghejaimhoboaaGreatDoor
