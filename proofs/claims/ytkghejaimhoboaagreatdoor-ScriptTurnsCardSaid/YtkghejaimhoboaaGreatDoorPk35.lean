/- Parts of the proof of ScriptTurns. -/
import Derived.Test.YtkghejaimhoboaaGreatDoorPk30
set_option linter.unusedSimpArgs false
set_option linter.unusedVariables false
set_option maxRecDepth 100000
set_option maxHeartbeats 8000000
namespace Go.Proofs.YtkghejaimhoboaaGreatDoor
open Go.RowKit Go.Shelf Go.Proofs.Tryz
section
attribute [local go_sem] Oper.semAt_some
theorem T8(u:gp)(W:World):(binOp .neq 47 (.agg u.vals) (.agg #[.string ⟨#[]⟩,.string ⟨#[]⟩,.int .i64 0,.bool false])).run prog W=.ok (.bool (!fJ u)) W:=by
 obtain⟨t,b,q,r⟩:=u;unfold gp.vals fJ;go_simp;by_cases h1:t=[]
 ·by_cases h2:b=[]
  ·by_cases h3:q=0
   ·cases r<;>simp[h1,h2,h3]
   simp[h1,h2,h3]
  simp[h1,h2]
 simp[h1]
theorem Pr(u:gp)(s1 s2:Operand)(W:World):(eqGuard .neq 47 s1 s2 (.agg u.vals) (.agg #[.string ⟨#[]⟩,.string ⟨#[]⟩,.int .i64 0,.bool false])).run prog W=.ok () W:=by obtain⟨t,b,q,r⟩:=u;unfold gp.vals;go_simp
theorem Bp(p:Pk)(h:H3)(w:World)(hs:yT p):Calls prog 114 #[.agg (p.cells h).toArray] w (dD (oo p) w):=by
 have CN:=af (fun W'=>xr p.will.topic W' (by have:=hs.wt;omega));have CU:=af (fun W'=>A3 p.user 200 W' (by have:=hs.user;omega) (by decide));have CC:=af (fun W'=>A3 p.client 23 W' (by have:=hs.client;omega) (by decide));have Ty:=af (fun W=>T8 p.will W);have Tz:=af (fun s1 s2 W=>Pr p.will s1 s2 W);have hbl:=hs.wb;have hpl:=hs.pass;have gj:=af (FX p);obtain⟨xV,ht⟩:=ae (oo p);rw[ht]at gj ⊢;clear ht;have wM:Hid (AU p=((!p.hasWill&&fJ p.will)||(p.hasWill&&en p.will.topic&&decide (p.will.body.length<=2000)&&within p.will.qos 0 2))):=af rfl;have wR:Hid (AV p=((p.hasUser&&gQ p.user 200)||(!p.hasUser&&p.user.isEmpty&& !p.hasPass))):=af rfl;have kF:Hid (AW p=((p.hasPass&&decide (p.pass.length<=200))||(!p.hasPass&&p.pass.isEmpty))):=af rfl;have EU:=af (QO p.user);have EP:=af (FU p.pass);have EC:=af (FU p.client);have GU:=af (LF p.user);have GP:=af (FV p.pass);have GC:=af (FV p.client);have pq:ByteArray.size ⟨p.will.body.toArray⟩=p.will.body.length:=by simp[ByteArray.size]
 have oh:ByteArray.size ⟨p.pass.toArray⟩=p.pass.length:=by simp[ByteArray.size]
 obtain⟨pc,bt⟩:=ae ((p.cells h).toArray);have kc:Hid (∀W,ar W w.heap.size pc 52->∀i,W.cell? ⟨w.heap.size,i,none⟩=(p.cells h)[i]?):=af fun W hb i=>by rw[hb.cell,<-bt];simp
 have mw:Hid (∀W,ar W w.heap.size pc 52->W.rangeAt w.heap.size 11 [.string ⟨p.will.topic.toArray⟩,.string ⟨p.will.body.toArray⟩,.int .i64 p.will.qos,.bool p.will.retain]):=af fun W hb=>hb.mid ((p.cells h).take 11) [.string ⟨p.will.topic.toArray⟩,.string ⟨p.will.body.toArray⟩,.int .i64 p.will.qos,.bool p.will.retain] ((p.cells h).drop 15) (by rw[<-bt];rfl);rw[bt];have HI:=af (IJ.start w pc);have k7:(w.alloc (.cells pc 52)).cell? ⟨w.heap.size,7,none⟩=some (.string ⟨p.client.toArray⟩):=kc _ HI.pk 7;replace bt:=af bt;obtain⟨wl,ov⟩:=ae (AU p);obtain⟨us,Xs⟩:=ae (AV p);obtain⟨ps,qX⟩:=ae (AW p);rw[ov]at wM gj;rw[Xs]at wR gj;rw[qX]at kF gj;clear ov Xs qX hs;go_enter func114,ntmps114;go_upto_region 1 with fail
 try simp only[PT]
 obtain⟨ob,FP⟩:=ae (gQ p.client 23&&(p.clean|| !p.client.isEmpty)&&within p.keep 0 65535);have Gh:Hid (xV=(ob&&wl&&us&&ps)):=af (by rw[gj.out,FP]);clear gj;go_cut [26]from 27 (fun s26 wx=>s26=.bool (!ob)/\Hid (IJ w pc wx))
 case first=>
  clear EU EP GU GP oh hpl pq hbl;obtain⟨cv,hcv⟩:=ae (Value.string ⟨p.client.toArray⟩);obtain⟨ce,hce⟩:=ae p.client.isEmpty;obtain⟨sc,hsc⟩:=ae (gQ p.client 23);have EC:=EC.out;have GC:=GC.out;rw[hcv]at k7 CC EC GC;rw[hce]at EC FP;rw[hsc]at CC FP;have k7c:Hid (∀W,ar W w.heap.size pc 52->W.cell? ⟨w.heap.size,7,none⟩=some cv):=af fun W hb=>by rw[<-hcv];exact kc _ hb 7
  obtain⟨cl,jy⟩:=ae p.clean;obtain⟨kp,Qt⟩:=ae p.keep;rw[jy,Qt]at FP;have FP:=af FP;have k8c:Hid (∀W,ar W w.heap.size pc 52->W.cell? ⟨w.heap.size,8,none⟩=some (.bool cl)/\W.cell? ⟨w.heap.size,9,none⟩=some (.int .i64 kp)):=af fun W hb=>⟨by rw[<-jy];exact kc _ hb 8,by rw[<-Qt];exact kc _ hb 9⟩;clear hcv hce hsc jy Qt;go_wp2_with fail;refine(CC _).mono ?_;rintro e w1 ⟨rfl,hb1⟩;have H1:=af (HI.step hb1);have k7:=k7c _ H1.pk;have k8:=(k8c _ H1.pk).1;have k9:=(k8c _ H1.pk).2;clear hb1 HI CC;cases sc with
  |false=>
   obtain rfl:ob=false:=by rw[<-FP.out];rfl
   go_wp2_with fail
   go_meet
   case rel=>exact⟨rfl,H1⟩
  | true=>
   by_cases h1:kp<0
   ·have d1:decide (kp<0)=true:=decide_eq_true h1;obtain rfl:ob=false:=by rw[<-FP.out,show within kp 0 65535=false from by unfold within;simp;omega];simp
    cases cl<;>cases ce<;>
    ·go_wp2_with fail
     go_meet
     case rel=>exact⟨rfl,H1⟩
   have d1:decide (kp<0)=false:=decide_eq_false h1;by_cases h2:65535<kp
   ·have d2:decide (65535<kp)=true:=decide_eq_true h2;obtain rfl:ob=false:=by rw[<-FP.out,show within kp 0 65535=false from by unfold within;simp;omega];simp
    cases cl<;>cases ce<;>
    ·go_wp2_with fail
     go_meet
     case rel=>exact⟨rfl,H1⟩
   have d2:decide (65535<kp)=false:=decide_eq_false h2;have e:ob=(cl|| !ce):=by rw[<-FP.out,show within kp 0 65535=true from by unfold within;simp;omega];simp
   subst e;clear FP Gh;cases cl<;>cases ce<;>
   ·go_wp2_with fail
    go_meet
    case rel=>exact⟨rfl,H1⟩
 case rest=>
  obtain⟨rfl,HK⟩:=hcut;obtain⟨wa,sM⟩:=ae wc;rw[sM]at HK ⊢;clear sM k7 FP CC EC GC HI;cases ob with
  |false=>
   have hno:Hid (xV=false):=af (by rw[Gh];rfl);go_wp2_with fail
   go_ret;exact dD.mk' hno.symm HK.out.ag
  | true=>
   have Mt:Hid (xV=(wl&&us&&ps)):=af (by rw[Gh];rfl);clear Gh;have gI:wa.cell? ⟨w.heap.size,10,none⟩=some (.bool p.hasWill):=kc _ HK.out.pk 10;go_upto_region 3 with fail
   try simp only[PT]
   go_cut [65]from 66 (fun s65 wx=>s65=.bool (!wl)/\Hid (IJ w pc wx))
   case first=>
    clear EU EP GU GP oh hpl wR kF CU;cases hw:p.hasWill with
    | false=>
     rw[hw]at gI wM;have e:wl=fJ p.will:=by have:=wM.out;simpa using this
     obtain⟨ew,Xt⟩:=ae (fJ p.will);have HE:=Ty.out;have HG:=Tz.out;unfold gp.vals at HE HG;rw[Xt]at e HE;have Gd:wa.cell? ⟨w.heap.size,11,none⟩=some (.string ⟨p.will.topic.toArray⟩):=kc _ HK.out.pk 11;have Pn:wa.cell? ⟨w.heap.size,12,none⟩=some (.string ⟨p.will.body.toArray⟩):=kc _ HK.out.pk 12;have ZW:wa.cell? ⟨w.heap.size,13,none⟩=some (.int .i64 p.will.qos):=kc _ HK.out.pk 13;have Cj:wa.cell? ⟨w.heap.size,14,none⟩=some (.bool p.will.retain):=kc _ HK.out.pk 14;obtain⟨tv,Cf⟩:=ae (Value.string ⟨p.will.topic.toArray⟩);obtain⟨bv,kC⟩:=ae (Value.string ⟨p.will.body.toArray⟩);obtain⟨qv,qZ⟩:=ae (Value.int .i64 p.will.qos);obtain⟨rv,hrv⟩:=ae (Value.bool p.will.retain);rw[Cf]at HE HG Gd;rw[kC]at HE HG Pn;rw[qZ]at HE HG ZW;rw[hrv]at HE HG Cj;subst e;clear Xt wM hw pq hbl Ty Tz Cf kC qZ hrv CN;cases wl<;>
     ·go_wp2_with fail
      go_meet
      case rel=>exact⟨rfl,HK⟩
    | true=>
     have Gd:wa.cell? ⟨w.heap.size,11,none⟩=some (.string ⟨p.will.topic.toArray⟩):=kc _ HK.out.pk 11;rw[hw]at gI wM;have e:Hid (wl=(en p.will.topic&&decide (p.will.body.length<=2000)&&within p.will.qos 0 2)):=af (by have:=wM.out;simpa using this);have acu:Hid (∀W,ar W w.heap.size pc 52->W.cell? ⟨w.heap.size,10,none⟩=some (.bool true)):=af fun W hb=>by rw[<-hw];exact kc _ hb 10
     clear wM hw Ty Tz;have Vd:=CN;obtain⟨nm,vZ⟩:=ae (en p.will.topic);rw[vZ]at e Vd;clear vZ;obtain⟨n,hn⟩:=ae p.will.body.length;rw[hn]at e pq hbl;obtain⟨qz,JI⟩:=ae p.will.qos;obtain⟨bb,lN⟩:=ae ((⟨p.will.body.toArray⟩:ByteArray):ByteArray);have T9:Hid (∀W,ar W w.heap.size pc 52->W.cell? ⟨w.heap.size,12,none⟩=some (.string bb)/\W.cell? ⟨w.heap.size,13,none⟩=some (.int .i64 qz)):=af fun W hb=>⟨by rw[<-lN];exact kc _ hb 12,by rw[<-JI];exact kc _ hb 13⟩;rw[JI]at e;rw[lN]at pq;clear lN JI hn;go_wp2_with fail;refine(Vd.out _).mono ?_;rintro e' w3 ⟨rfl,hb3⟩;have nB:=af (HK.out.step hb3);have Pn:=(T9 _ nB.pk).1;have ZW:=(T9 _ nB.pk).2;have ahJ:=acu _ nB.pk;clear hb3 gI Gd CN Vd;cases nm with
     |false=>
      obtain rfl:wl=false:=by have:=e.out;simpa using this
      go_wp2_with fail
      go_meet
      case rel=>exact⟨rfl,nB⟩
     | true=>
      by_cases h2:2000<n
      ·have d:decide (2000<(n:Int))=true:=decide_eq_true (by omega);obtain rfl:wl=false:=by rw[e,show decide (n<=2000)=false from decide_eq_false (by omega)];rfl
       go_wp2_with fail
       go_meet
       case rel=>exact⟨rfl,nB⟩
      have d:decide (2000<(n:Int))=false:=decide_eq_false (by omega);by_cases h3:qz<0
      ·have d3:decide (qz<0)=true:=decide_eq_true h3;obtain rfl:wl=false:=by rw[e,show within qz 0 2=false from by unfold within;simp;omega];simp
       go_wp2_with fail
       go_meet
       case rel=>exact⟨rfl,nB⟩
      have d3:decide (qz<0)=false:=decide_eq_false h3;by_cases h4:2<qz
      ·have d4:decide (2<qz)=true:=decide_eq_true h4;obtain rfl:wl=false:=by rw[e,show within qz 0 2=false from by unfold within;simp;omega];simp
       go_wp2_with fail
       go_meet
       case rel=>exact⟨rfl,nB⟩
      have d4:decide (2<qz)=false:=decide_eq_false h4;obtain rfl:wl=true:=by rw[e,show within qz 0 2=true from by unfold within;simp;omega,show decide (n<=2000)=true from decide_eq_true (by omega)];rfl
      go_wp2_with fail
      go_meet
      case rel=>exact⟨rfl,nB⟩
   case rest=>
    obtain⟨rfl,HL⟩:=hcut;obtain⟨wb,ov⟩:=ae wc;rw[ov]at HL ⊢;clear ov gI HK Ty Tz CN pq hbl wM;cases wl with
    |false=>
     have hno:Hid (xV=false):=af (by rw[Mt];rfl);go_wp2_with fail
     go_ret;exact dD.mk' hno.symm HL.out.ag
    | true=>
     have Mu:Hid (xV=(us&&ps)):=af (by rw[Mt];rfl);clear Mt;obtain⟨hu,Q3⟩:=ae p.hasUser;obtain⟨hp,JF⟩:=ae p.hasPass;rw[Q3,JF]at wR;rw[JF]at kF;have ZX:Hid (∀W,ar W w.heap.size pc 52->W.cell? ⟨w.heap.size,15,none⟩=some (.bool hu)/\W.cell? ⟨w.heap.size,16,none⟩=some (.bool hp)):=af fun W hb=>⟨by rw[<-Q3];exact kc _ hb 15,by rw[<-JF];exact kc _ hb 16⟩;have Fz:=(ZX _ HL.out.pk).1;have yC:=(ZX _ HL.out.pk).2;clear Q3 JF;go_upto_region 5 with fail;try simp only[PT]
     go_cut [87]from 88 (fun s87 wx=>s87=.bool (!us)/\Hid (IJ w pc wx))
     case first=>
      clear EP GP oh hpl kF;obtain⟨uv,AX⟩:=ae (Value.string ⟨p.user.toArray⟩);obtain⟨ue,QQ⟩:=ae p.user.isEmpty;obtain⟨su,hsu⟩:=ae (gQ p.user 200);have EU:=EU.out;have GU:=GU.out;have KX:wb.cell? ⟨w.heap.size,17,none⟩=some (.string ⟨p.user.toArray⟩):=kc _ HL.out.pk 17;rw[AX]at KX CU EU GU;rw[QQ]at EU wR;rw[hsu]at CU wR;clear AX QQ hsu;cases hu with
      | true=>
       clear EU GU;have e:us=su:=by have:=wR.out;simpa using this
       subst e;clear wR;go_wp2_with fail;refine(CU _).mono ?_;rintro e' w3 ⟨rfl,hb3⟩;have nB:=af (HL.out.step hb3);have j15:=(ZX _ nB.pk).1;clear hb3 Fz yC KX;cases us<;>
       ·go_wp2_with fail
        go_meet
        case rel=>exact⟨rfl,nB⟩
      | false=>
       have e:us=(ue&& !hp):=by have:=wR.out;simpa using this
       subst e;clear wR CU;cases ue<;>cases hp<;>
       ·go_wp2_with fail
        go_meet
        case rel=>exact⟨rfl,HL⟩
     case rest=>
      obtain⟨rfl,HM⟩:=hcut;obtain⟨wd,hwd⟩:=ae wc;rw[hwd]at HM ⊢;clear hwd Fz yC HL EU GU wR CU;cases us with
      |false=>
       have hno:Hid (xV=false):=af (by rw[Mu];rfl);go_wp2_with fail
       go_ret;exact dD.mk' hno.symm HM.out.ag
      | true=>
       have Mv:Hid (xV=ps):=af (by rw[Mu];rfl);clear Mu;have j16:=(ZX _ HM.out.pk).2;have Jz:wd.cell? ⟨w.heap.size,18,none⟩=some (.string ⟨p.pass.toArray⟩):=kc _ HM.out.pk 18;cases hp with
       | true=>
        obtain⟨pv,DL⟩:=ae ((⟨p.pass.toArray⟩:ByteArray):ByteArray);rw[DL]at Jz oh;obtain⟨n,hn⟩:=ae p.pass.length;rw[hn]at kF oh hpl;clear DL hn EP GP;by_cases h2:n<=200
        ·have d:decide ((n:Int)<=200)=true:=decide_eq_true (by omega);have e:Hid (xV=true):=af (by rw[Mv,kF,decide_eq_true h2];rfl);go_wp2_with fail
         go_ret;exact dD.mk' e.symm HM.out.ag
        have d:decide ((n:Int)<=200)=false:=decide_eq_false (by omega);have e:Hid (xV=false):=af (by rw[Mv,kF,decide_eq_false h2];rfl);go_wp2_with fail
        go_ret;exact dD.mk' e.symm HM.out.ag
       | false=>
        obtain⟨pv,DL⟩:=ae (Value.string ⟨p.pass.toArray⟩);obtain⟨pe,hpe⟩:=ae p.pass.isEmpty;have EP:=EP.out;have GP:=GP.out;rw[DL]at Jz EP GP;rw[hpe]at EP kF;have e:Hid (xV=pe):=af (by rw[Mv,kF];simp);clear DL hpe oh hpl;cases pe<;>
        ·go_wp2_with fail
         go_ret;exact dD.mk' e.symm HM.out.ag
end
end Go.Proofs.YtkghejaimhoboaaGreatDoor
