/- Parts of the proof of ScriptRaws. -/
import Derived.Test.YtkghejaimhoboaaGreatDoorPr26
import Derived.Test.YtkghejaimhoboaaGreatDoorPr30
set_option linter.unusedSimpArgs false
set_option linter.unusedVariables false
set_option maxRecDepth 100000
set_option maxHeartbeats 8000000
namespace Go.Proofs.YtkghejaimhoboaaGreatDoor
open Go.RowKit Go.Shelf Go.Proofs.Tryz
structure PkI (w:World)(pc:Array Value)(W:World):Prop where
 below:Below w.heap.size w W
 pk:Blk W w.heap.size pc 52
theorem PkI.step{w:World}{pc:Array Value}{W W':World}(x:PkI w pc W)(hb:Below W.heap.size W W'):PkI w pc W':=⟨x.below.trans (hb.mono x.below.size),x.pk.below hb⟩
theorem PkI.start(w:World)(pc:Array Value):PkI w pc (w.alloc (.cells pc 52)):=⟨bel_refl.alloc nat_le_rfl _,Blk.new _ _ _⟩
theorem AnyP.mk'{b c:Bool}{w w':World}(h:c=b)(hb:Below w.heap.size w w'):AnyP b w (.returned (.bool c)) w':=⟨by rw[h],hb⟩
section
attribute [local go_sem] Oper.semAt_some
theorem neq_wz(u:WillV)(W:World):(binOp .neq 47 (.agg u.vals) (.agg #[.string ⟨#[]⟩,.string ⟨#[]⟩,.int .i64 0,.bool false])).run prog W=.ok (.bool (!eqWill2 u)) W:=by
 obtain⟨t,b,q,r⟩:=u;unfold WillV.vals eqWill2;go_simp;by_cases h1:t=[]
 ·by_cases h2:b=[]
  ·by_cases h3:q=0
   ·cases r<;>simp[h1,h2,h3]
   simp[h1,h2,h3]
  simp[h1,h2]
 simp[h1]
theorem neqg_wz(u:WillV)(s1 s2:Operand)(W:World):(eqGuard .neq 47 s1 s2 (.agg u.vals) (.agg #[.string ⟨#[]⟩,.string ⟨#[]⟩,.int .i64 0,.bool false])).run prog W=.ok () W:=by obtain⟨t,b,q,r⟩:=u;unfold WillV.vals;go_simp
theorem r16_connect(p:Pk)(h:H3)(w:World)(hs:PkS p):Calls prog 114 #[.agg (p.cells h).toArray] w (AnyP (mayC p) w):=by
 have CN:=hid (fun W'=>r13_Name2 p.will.topic W' (by have:=hs.wt;omega));have CU:=hid (fun W'=>r16_said p.user 200 W' (by have:=hs.user;omega) (by decide));have CC:=hid (fun W'=>r16_said p.client 23 W' (by have:=hs.client;omega) (by decide));have HWE:=hid (fun W=>neq_wz p.will W);have HWG:=hid (fun s1 s2 W=>neqg_wz p.will s1 s2 W);have hbl:=hs.wb;have hpl:=hs.pass;have htot:=hid (mayC_eq p);obtain⟨tot,ht⟩:=gen_of (mayC p);rw[ht]at htot ⊢;clear ht;have hwl:Hid (willB p=((!p.hasWill&&eqWill2 p.will)||(p.hasWill&&nameR p.will.topic&&decide (p.will.body.length<=2000)&&within p.will.qos 0 2))):=hid rfl;have hub:Hid (userB p=((p.hasUser&&saidN p.user 200)||(!p.hasUser&&p.user.isEmpty&& !p.hasPass))):=hid rfl;have hpb:Hid (passB p=((p.hasPass&&decide (p.pass.length<=200))||(!p.hasPass&&p.pass.isEmpty))):=hid rfl;have EU:=hid (neq_z p.user);have EP:=hid (eql_z p.pass);have EC:=hid (eql_z p.client);have GU:=hid (neqg_z p.user);have GP:=hid (eqg_z p.pass);have GC:=hid (eqg_z p.client);have hsz1:ByteArray.size ⟨p.will.body.toArray⟩=p.will.body.length:=by simp[ByteArray.size]
 have hsz2:ByteArray.size ⟨p.pass.toArray⟩=p.pass.length:=by simp[ByteArray.size]
 obtain⟨pc,hpc⟩:=gen_of ((p.cells h).toArray);have kc:Hid (∀W,Blk W w.heap.size pc 52->∀i,W.cell? ⟨w.heap.size,i,none⟩=(p.cells h)[i]?):=hid fun W hb i=>by rw[hb.cell,<-hpc];simp
 have mw:Hid (∀W,Blk W w.heap.size pc 52->W.rangeAt w.heap.size 11 [.string ⟨p.will.topic.toArray⟩,.string ⟨p.will.body.toArray⟩,.int .i64 p.will.qos,.bool p.will.retain]):=hid fun W hb=>hb.mid ((p.cells h).take 11) [.string ⟨p.will.topic.toArray⟩,.string ⟨p.will.body.toArray⟩,.int .i64 p.will.qos,.bool p.will.retain] ((p.cells h).drop 15) (by rw[<-hpc];rfl);rw[hpc];have HI:=hid (PkI.start w pc);have k7:(w.alloc (.cells pc 52)).cell? ⟨w.heap.size,7,none⟩=some (.string ⟨p.client.toArray⟩):=kc _ HI.pk 7;replace hpc:=hid hpc;obtain⟨wl,hwb⟩:=gen_of (willB p);obtain⟨us,hus⟩:=gen_of (userB p);obtain⟨ps,hps⟩:=gen_of (passB p);rw[hwb]at hwl htot;rw[hus]at hub htot;rw[hps]at hpb htot;clear hwb hus hps hs;go_enter func114,ntmps114;go_upto_region 1 with fail
 try simp only[PT]
 obtain⟨ob,hob⟩:=gen_of (saidN p.client 23&&(p.clean|| !p.client.isEmpty)&&within p.keep 0 65535);have htot2:Hid (tot=(ob&&wl&&us&&ps)):=hid (by rw[htot.out,hob]);clear htot;go_cut [26]from 27 (fun s26 wx=>s26=.bool (!ob)/\Hid (PkI w pc wx))
 case first=>
  clear EU EP GU GP hsz2 hpl hsz1 hbl;obtain⟨cv,hcv⟩:=gen_of (Value.string ⟨p.client.toArray⟩);obtain⟨ce,hce⟩:=gen_of p.client.isEmpty;obtain⟨sc,hsc⟩:=gen_of (saidN p.client 23);have EC:=EC.out;have GC:=GC.out;rw[hcv]at k7 CC EC GC;rw[hce]at EC hob;rw[hsc]at CC hob;have k7c:Hid (∀W,Blk W w.heap.size pc 52->W.cell? ⟨w.heap.size,7,none⟩=some cv):=hid fun W hb=>by rw[<-hcv];exact kc _ hb 7
  obtain⟨cl,hcl⟩:=gen_of p.clean;obtain⟨kp,hkp⟩:=gen_of p.keep;rw[hcl,hkp]at hob;have hob:=hid hob;have k8c:Hid (∀W,Blk W w.heap.size pc 52->W.cell? ⟨w.heap.size,8,none⟩=some (.bool cl)/\W.cell? ⟨w.heap.size,9,none⟩=some (.int .i64 kp)):=hid fun W hb=>⟨by rw[<-hcl];exact kc _ hb 8,by rw[<-hkp];exact kc _ hb 9⟩;clear hcv hce hsc hcl hkp;go_wp2_with fail;refine(CC _).mono ?_;rintro e w1 ⟨rfl,hb1⟩;have H1:=hid (HI.step hb1);have k7:=k7c _ H1.pk;have k8:=(k8c _ H1.pk).1;have k9:=(k8c _ H1.pk).2;clear hb1 HI CC;cases sc with
  |false=>
   obtain rfl:ob=false:=by rw[<-hob.out];rfl
   go_wp2_with fail
   go_meet
   case rel=>exact⟨rfl,H1⟩
  | true=>
   by_cases h1:kp<0
   ·have d1:decide (kp<0)=true:=decide_eq_true h1;obtain rfl:ob=false:=by rw[<-hob.out,show within kp 0 65535=false from by unfold within;simp;omega];simp
    cases cl<;>cases ce<;>
    ·go_wp2_with fail
     go_meet
     case rel=>exact⟨rfl,H1⟩
   have d1:decide (kp<0)=false:=decide_eq_false h1;by_cases h2:65535<kp
   ·have d2:decide (65535<kp)=true:=decide_eq_true h2;obtain rfl:ob=false:=by rw[<-hob.out,show within kp 0 65535=false from by unfold within;simp;omega];simp
    cases cl<;>cases ce<;>
    ·go_wp2_with fail
     go_meet
     case rel=>exact⟨rfl,H1⟩
   have d2:decide (65535<kp)=false:=decide_eq_false h2;have e:ob=(cl|| !ce):=by rw[<-hob.out,show within kp 0 65535=true from by unfold within;simp;omega];simp
   subst e;clear hob htot2;cases cl<;>cases ce<;>
   ·go_wp2_with fail
    go_meet
    case rel=>exact⟨rfl,H1⟩
 case rest=>
  obtain⟨rfl,HK⟩:=hcut;obtain⟨wa,hwa⟩:=gen_of wc;rw[hwa]at HK ⊢;clear hwa k7 hob CC EC GC HI;cases ob with
  |false=>
   have hno:Hid (tot=false):=hid (by rw[htot2];rfl);go_wp2_with fail
   go_ret;exact AnyP.mk' hno.symm HK.out.below
  | true=>
   have htot3:Hid (tot=(wl&&us&&ps)):=hid (by rw[htot2];rfl);clear htot2;have k10:wa.cell? ⟨w.heap.size,10,none⟩=some (.bool p.hasWill):=kc _ HK.out.pk 10;go_upto_region 3 with fail
   try simp only[PT]
   go_cut [65]from 66 (fun s65 wx=>s65=.bool (!wl)/\Hid (PkI w pc wx))
   case first=>
    clear EU EP GU GP hsz2 hpl hub hpb CU;cases hw:p.hasWill with
    | false=>
     rw[hw]at k10 hwl;have e:wl=eqWill2 p.will:=by have:=hwl.out;simpa using this
     obtain⟨ew,hew⟩:=gen_of (eqWill2 p.will);have HE:=HWE.out;have HG:=HWG.out;unfold WillV.vals at HE HG;rw[hew]at e HE;have k11:wa.cell? ⟨w.heap.size,11,none⟩=some (.string ⟨p.will.topic.toArray⟩):=kc _ HK.out.pk 11;have k12:wa.cell? ⟨w.heap.size,12,none⟩=some (.string ⟨p.will.body.toArray⟩):=kc _ HK.out.pk 12;have k13:wa.cell? ⟨w.heap.size,13,none⟩=some (.int .i64 p.will.qos):=kc _ HK.out.pk 13;have k14:wa.cell? ⟨w.heap.size,14,none⟩=some (.bool p.will.retain):=kc _ HK.out.pk 14;obtain⟨tv,htv⟩:=gen_of (Value.string ⟨p.will.topic.toArray⟩);obtain⟨bv,hbv⟩:=gen_of (Value.string ⟨p.will.body.toArray⟩);obtain⟨qv,hqv⟩:=gen_of (Value.int .i64 p.will.qos);obtain⟨rv,hrv⟩:=gen_of (Value.bool p.will.retain);rw[htv]at HE HG k11;rw[hbv]at HE HG k12;rw[hqv]at HE HG k13;rw[hrv]at HE HG k14;subst e;clear hew hwl hw hsz1 hbl HWE HWG htv hbv hqv hrv CN;cases wl<;>
     ·go_wp2_with fail
      go_meet
      case rel=>exact⟨rfl,HK⟩
    | true=>
     have k11:wa.cell? ⟨w.heap.size,11,none⟩=some (.string ⟨p.will.topic.toArray⟩):=kc _ HK.out.pk 11;rw[hw]at k10 hwl;have e:Hid (wl=(nameR p.will.topic&&decide (p.will.body.length<=2000)&&within p.will.qos 0 2)):=hid (by have:=hwl.out;simpa using this);have k10c:Hid (∀W,Blk W w.heap.size pc 52->W.cell? ⟨w.heap.size,10,none⟩=some (.bool true)):=hid fun W hb=>by rw[<-hw];exact kc _ hb 10
     clear hwl hw HWE HWG;have CNx:=CN;obtain⟨nm,hnm⟩:=gen_of (nameR p.will.topic);rw[hnm]at e CNx;clear hnm;obtain⟨n,hn⟩:=gen_of p.will.body.length;rw[hn]at e hsz1 hbl;obtain⟨qz,hqz⟩:=gen_of p.will.qos;obtain⟨bb,hbb⟩:=gen_of ((⟨p.will.body.toArray⟩:ByteArray):ByteArray);have kqc:Hid (∀W,Blk W w.heap.size pc 52->W.cell? ⟨w.heap.size,12,none⟩=some (.string bb)/\W.cell? ⟨w.heap.size,13,none⟩=some (.int .i64 qz)):=hid fun W hb=>⟨by rw[<-hbb];exact kc _ hb 12,by rw[<-hqz];exact kc _ hb 13⟩;rw[hqz]at e;rw[hbb]at hsz1;clear hbb hqz hn;go_wp2_with fail;refine(CNx.out _).mono ?_;rintro e' w3 ⟨rfl,hb3⟩;have HI3:=hid (HK.out.step hb3);have k12:=(kqc _ HI3.pk).1;have k13:=(kqc _ HI3.pk).2;have k10b:=k10c _ HI3.pk;clear hb3 k10 k11 CN CNx;cases nm with
     |false=>
      obtain rfl:wl=false:=by have:=e.out;simpa using this
      go_wp2_with fail
      go_meet
      case rel=>exact⟨rfl,HI3⟩
     | true=>
      by_cases h2:2000<n
      ·have d:decide (2000<(n:Int))=true:=decide_eq_true (by omega);obtain rfl:wl=false:=by rw[e,show decide (n<=2000)=false from decide_eq_false (by omega)];rfl
       go_wp2_with fail
       go_meet
       case rel=>exact⟨rfl,HI3⟩
      have d:decide (2000<(n:Int))=false:=decide_eq_false (by omega);by_cases h3:qz<0
      ·have d3:decide (qz<0)=true:=decide_eq_true h3;obtain rfl:wl=false:=by rw[e,show within qz 0 2=false from by unfold within;simp;omega];simp
       go_wp2_with fail
       go_meet
       case rel=>exact⟨rfl,HI3⟩
      have d3:decide (qz<0)=false:=decide_eq_false h3;by_cases h4:2<qz
      ·have d4:decide (2<qz)=true:=decide_eq_true h4;obtain rfl:wl=false:=by rw[e,show within qz 0 2=false from by unfold within;simp;omega];simp
       go_wp2_with fail
       go_meet
       case rel=>exact⟨rfl,HI3⟩
      have d4:decide (2<qz)=false:=decide_eq_false h4;obtain rfl:wl=true:=by rw[e,show within qz 0 2=true from by unfold within;simp;omega,show decide (n<=2000)=true from decide_eq_true (by omega)];rfl
      go_wp2_with fail
      go_meet
      case rel=>exact⟨rfl,HI3⟩
   case rest=>
    obtain⟨rfl,HL⟩:=hcut;obtain⟨wb,hwb⟩:=gen_of wc;rw[hwb]at HL ⊢;clear hwb k10 HK HWE HWG CN hsz1 hbl hwl;cases wl with
    |false=>
     have hno:Hid (tot=false):=hid (by rw[htot3];rfl);go_wp2_with fail
     go_ret;exact AnyP.mk' hno.symm HL.out.below
    | true=>
     have htot4:Hid (tot=(us&&ps)):=hid (by rw[htot3];rfl);clear htot3;obtain⟨hu,hhu⟩:=gen_of p.hasUser;obtain⟨hp,hhp⟩:=gen_of p.hasPass;rw[hhu,hhp]at hub;rw[hhp]at hpb;have kuc:Hid (∀W,Blk W w.heap.size pc 52->W.cell? ⟨w.heap.size,15,none⟩=some (.bool hu)/\W.cell? ⟨w.heap.size,16,none⟩=some (.bool hp)):=hid fun W hb=>⟨by rw[<-hhu];exact kc _ hb 15,by rw[<-hhp];exact kc _ hb 16⟩;have k15:=(kuc _ HL.out.pk).1;have k16:=(kuc _ HL.out.pk).2;clear hhu hhp;go_upto_region 5 with fail;try simp only[PT]
     go_cut [87]from 88 (fun s87 wx=>s87=.bool (!us)/\Hid (PkI w pc wx))
     case first=>
      clear EP GP hsz2 hpl hpb;obtain⟨uv,huv⟩:=gen_of (Value.string ⟨p.user.toArray⟩);obtain⟨ue,hue⟩:=gen_of p.user.isEmpty;obtain⟨su,hsu⟩:=gen_of (saidN p.user 200);have EU:=EU.out;have GU:=GU.out;have k17:wb.cell? ⟨w.heap.size,17,none⟩=some (.string ⟨p.user.toArray⟩):=kc _ HL.out.pk 17;rw[huv]at k17 CU EU GU;rw[hue]at EU hub;rw[hsu]at CU hub;clear huv hue hsu;cases hu with
      | true=>
       clear EU GU;have e:us=su:=by have:=hub.out;simpa using this
       subst e;clear hub;go_wp2_with fail;refine(CU _).mono ?_;rintro e' w3 ⟨rfl,hb3⟩;have HI3:=hid (HL.out.step hb3);have j15:=(kuc _ HI3.pk).1;clear hb3 k15 k16 k17;cases us<;>
       ·go_wp2_with fail
        go_meet
        case rel=>exact⟨rfl,HI3⟩
      | false=>
       have e:us=(ue&& !hp):=by have:=hub.out;simpa using this
       subst e;clear hub CU;cases ue<;>cases hp<;>
       ·go_wp2_with fail
        go_meet
        case rel=>exact⟨rfl,HL⟩
     case rest=>
      obtain⟨rfl,HM⟩:=hcut;obtain⟨wd,hwd⟩:=gen_of wc;rw[hwd]at HM ⊢;clear hwd k15 k16 HL EU GU hub CU;cases us with
      |false=>
       have hno:Hid (tot=false):=hid (by rw[htot4];rfl);go_wp2_with fail
       go_ret;exact AnyP.mk' hno.symm HM.out.below
      | true=>
       have htot5:Hid (tot=ps):=hid (by rw[htot4];rfl);clear htot4;have j16:=(kuc _ HM.out.pk).2;have k18:wd.cell? ⟨w.heap.size,18,none⟩=some (.string ⟨p.pass.toArray⟩):=kc _ HM.out.pk 18;cases hp with
       | true=>
        obtain⟨pv,hpv⟩:=gen_of ((⟨p.pass.toArray⟩:ByteArray):ByteArray);rw[hpv]at k18 hsz2;obtain⟨n,hn⟩:=gen_of p.pass.length;rw[hn]at hpb hsz2 hpl;clear hpv hn EP GP;by_cases h2:n<=200
        ·have d:decide ((n:Int)<=200)=true:=decide_eq_true (by omega);have e:Hid (tot=true):=hid (by rw[htot5,hpb,decide_eq_true h2];rfl);go_wp2_with fail
         go_ret;exact AnyP.mk' e.symm HM.out.below
        have d:decide ((n:Int)<=200)=false:=decide_eq_false (by omega);have e:Hid (tot=false):=hid (by rw[htot5,hpb,decide_eq_false h2];rfl);go_wp2_with fail
        go_ret;exact AnyP.mk' e.symm HM.out.below
       | false=>
        obtain⟨pv,hpv⟩:=gen_of (Value.string ⟨p.pass.toArray⟩);obtain⟨pe,hpe⟩:=gen_of p.pass.isEmpty;have EP:=EP.out;have GP:=GP.out;rw[hpv]at k18 EP GP;rw[hpe]at EP hpb;have e:Hid (tot=pe):=hid (by rw[htot5,hpb];simp);clear hpv hpe hsz2 hpl;cases pe<;>
        ·go_wp2_with fail
         go_ret;exact AnyP.mk' e.symm HM.out.below
end
end Go.Proofs.YtkghejaimhoboaaGreatDoor
