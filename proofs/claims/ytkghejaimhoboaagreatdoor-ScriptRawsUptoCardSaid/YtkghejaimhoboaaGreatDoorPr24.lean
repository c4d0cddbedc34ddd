/- Parts of the proof of ScriptRaws. -/
import Derived.Test.YtkghejaimhoboaaGreatDoorPr21
set_option linter.unusedSimpArgs false
set_option linter.unusedVariables false
set_option maxRecDepth 100000
set_option maxHeartbeats 8000000
namespace Go.Proofs.YtkghejaimhoboaaGreatDoor
open Go.RowKit Go.Shelf Go.Proofs.Tryz
section
attribute [local go_sem] Oper.semAt_some
theorem eql_z(x:List UInt8)(W:World):(binOp .eql 9 (.string ⟨x.toArray⟩) (.string ⟨#[]⟩)).run prog W=.ok (.bool x.isEmpty) W:=by go_simp
theorem neq_z(x:List UInt8)(W:World):(binOp .neq 9 (.string ⟨x.toArray⟩) (.string ⟨#[]⟩)).run prog W=.ok (.bool (!x.isEmpty)) W:=by go_simp
theorem eqg_z(x:List UInt8)(s1 s2:Operand)(W:World):(eqGuard .eql 9 s1 s2 (.string ⟨x.toArray⟩) (.string ⟨#[]⟩)).run prog W=.ok () W:=by go_simp
theorem neqg_z(x:List UInt8)(s1 s2:Operand)(W:World):(eqGuard .neq 9 s1 s2 (.string ⟨x.toArray⟩) (.string ⟨#[]⟩)).run prog W=.ok () W:=by go_simp
theorem eql_wz(u:WillV)(W:World):(binOp .eql 47 (.agg u.vals) (.agg #[.string ⟨#[]⟩,.string ⟨#[]⟩,.int .i64 0,.bool false])).run prog W=.ok (.bool (eqWill2 u)) W:=by
 obtain⟨t,b,q,r⟩:=u;unfold WillV.vals eqWill2;go_simp;by_cases h1:t=[]
 ·by_cases h2:b=[]
  ·by_cases h3:q=0
   ·cases r<;>simp[h1,h2,h3]
   simp[h1,h2,h3]
  simp[h1,h2]
 simp[h1]
theorem eqg_wz(u:WillV)(s1 s2:Operand)(W:World):(eqGuard .eql 47 s1 s2 (.agg u.vals) (.agg #[.string ⟨#[]⟩,.string ⟨#[]⟩,.int .i64 0,.bool false])).run prog W=.ok () W:=by obtain⟨t,b,q,r⟩:=u;unfold WillV.vals;go_simp
theorem wLG{P:Program}{w:World}{ops:Array Oper}{rest:List Oper}{op:Oper}{a:Act}{Q:Exit->Act->World->Prop}(ty:TypeId){x:Operand}(ho:op.op=.load ty x){b:Nat}{cs:Array Value}{T:TypeId}(hx:a.eval x=.pointer (some ⟨b,0,none⟩))(hb:Blk w b cs T){d:TypeDesc}(hu:P.underlying ty=some d)
  {v:Value} (hv:Value.agg cs=v) (h:wpList P ops Q rest (a.put op.dst v) w) (hi:(P.info? ty).map (·.size)=some cs.size) (hw:Region.wanted op (yielded ops a.tmps)=true:=by kernel_rfl) (hd:d.isRow=true:=by rfl):wpList P ops Q (op::rest) a w:=by
 subst hv;have hl:=run_load_blk (P:=P) hb ty hu hd hi;unfold wpList;rw[if_pos hw];refine .inl ?_;unfold Oper.wp execOp;simp only[ho,hx,Sem.run_bind,hl,Result.andThen_ok,Sem.run_pure];exact h
def willB(p:Pk):Bool:=(!p.hasWill&&eqWill2 p.will)||(p.hasWill&&nameR p.will.topic&&decide (p.will.body.length<=2000)&&within p.will.qos 0 2)
def userB(p:Pk):Bool:=(p.hasUser&&saidN p.user 200)||(!p.hasUser&&p.user.isEmpty&& !p.hasPass)
def passB(p:Pk):Bool:=(p.hasPass&&decide (p.pass.length<=200))||(!p.hasPass&&p.pass.isEmpty)
theorem mayC_eq(p:Pk):mayC p=(saidN p.client 23&&(p.clean|| !p.client.isEmpty)&&within p.keep 0 65535&&willB p&&userB p&&passB p):=rfl
structure ConI (W:World)(p:Pk)(h:H3)(w:World):Prop where
 below:Below W.heap.size W w
 pk:Blk w W.heap.size (p.cells h).toArray 52
 wl:Blk w (W.heap.size+1) p.will.vals 47
theorem ConI.step{W:World}{p:Pk}{h:H3}{w w':World}(x:ConI W p h w)(hb:Below w.heap.size w w'):ConI W p h w':=⟨x.below.trans (hb.mono x.below.size),x.pk.below hb,x.wl.below hb⟩
theorem pk_mayCon(p:Pk)(h:H3)(W:World)(hs:PkS p):Calls prog 197 #[.agg (p.cells h).toArray] W (AnyP (mayC p) W):=by
 have CN:=hid (fun W'=>topic_Name p.will.topic W' (by have:=hs.wt;omega) (anyOK p.will.topic (by have:=hs.wt;omega)));have CQ:=hid (pk_qos p.will.qos);have CU:=hid (fun W'=>pk_said p.user 200 W' (by have:=hs.user;omega) (by decide));have CC:=hid (fun W'=>pk_said p.client 23 W' (by have:=hs.client;omega) (by decide));have CW:=hid (pk_within p.keep 0 65535);have HWE:=hid (fun W=>eql_wz p.will W);have HWG:=hid (fun s1 s2 W=>eqg_wz p.will s1 s2 W);have hbl:=hs.wb;have hpl:=hs.pass;have htot:=hid (mayC_eq p);obtain⟨tot,ht⟩:=gen_of (mayC p);rw[ht]at htot ⊢;clear ht;have hwl:Hid (willB p=((!p.hasWill&&eqWill2 p.will)||(p.hasWill&&nameR p.will.topic&&decide (p.will.body.length<=2000)&&within p.will.qos 0 2))):=hid rfl;have hub:Hid (userB p=((p.hasUser&&saidN p.user 200)||(!p.hasUser&&p.user.isEmpty&& !p.hasPass))):=hid rfl;have hpb:Hid (passB p=((p.hasPass&&decide (p.pass.length<=200))||(!p.hasPass&&p.pass.isEmpty))):=hid rfl;have EU:=hid (eql_z p.user);have EP:=hid (eql_z p.pass);have EC:=hid (neq_z p.client);have GU:=hid (eqg_z p.user);have GP:=hid (eqg_z p.pass);have GC:=hid (neqg_z p.client);have hsz1:ByteArray.size ⟨p.will.body.toArray⟩=p.will.body.length:=by simp[ByteArray.size]
 have hsz2:ByteArray.size ⟨p.pass.toArray⟩=p.pass.length:=by simp[ByteArray.size]
 obtain⟨xc,hxc⟩:=gen_of ((p.cells h).toArray);have hB:Blk (W.alloc (.cells xc 52)) W.heap.size xc 52:=Blk.new _ _ _;have hb:Below W.heap.size W (W.alloc (.cells xc 52)):=bel_refl.alloc nat_le_rfl _;have ix:(prog.info? 52).map (·.size)=some xc.size:=by rw[<-hxc];exact(by kernel_rfl:(prog.info? 52).map (·.size)=some 24)
 replace hb:=hid hb;have hmid:=hB.mid ((p.cells h).take 11) [.string ⟨p.will.topic.toArray⟩,.string ⟨p.will.body.toArray⟩,.int .i64 p.will.qos,.bool p.will.retain] ((p.cells h).drop 15) (by rw[<-hxc];rfl);have HBx:=hid (show Blk (W.alloc (.cells xc 52)) W.heap.size (p.cells h).toArray 52 from by rw[hxc];exact hB);rw[hxc];have hone:Hid (∀v∈#[Value.string ⟨p.will.topic.toArray⟩,.string ⟨p.will.body.toArray⟩,.int .i64 p.will.qos,.bool p.will.retain].toList,v.oneCell'=true):=hid (by simp[Value.oneCell']);have hZ:Blk ((W.alloc (.cells xc 52)).alloc (.cells #[.string ⟨#[]⟩,.string ⟨#[]⟩,.int .i64 0,.bool false] 47)) (W.heap.size+1) #[.string ⟨#[]⟩,.string ⟨#[]⟩,.int .i64 0,.bool false] 47:=by have:=Blk.new (W.alloc (.cells xc 52)) #[.string ⟨#[]⟩,.string ⟨#[]⟩,.int .i64 0,.bool false] 47;simpa using this
 clear hB ix hs;go_enter func197,ntmps197;go_upto_region 2 with(first
  | (refine wLm 47 rfl rfl hmid underlying47 ?_)
  | (refine wS 47 4 rfl (W.heap.size+1) _ _ rfl rfl hZ rfl rfl hone.out ?_;intro w2 hw2 hr2))
 have hI:ConI W p h w2:=by
  have hb1:=hb.out;have hz:(W.alloc (.cells xc 52)).heap.size=W.heap.size+1:=by simp
  refine⟨(hb1.alloc hb1.size _).trans (hr2.below (by simp;omega) (by simp)),(HBx.alloc _).keepW hr2 (by simp),?_⟩;exact hw2
 have HI:=hid hI;replace hxc:=hid hxc;clear hmid hw2 hr2 hI HBx;obtain⟨wl,hwb⟩:=gen_of (willB p);obtain⟨us,hus⟩:=gen_of (userB p);obtain⟨ps,hps⟩:=gen_of (passB p);rw[hwb]at hwl htot;rw[hus]at hub htot;rw[hps]at hpb htot;clear hwb hus hps;clear hone;try simp only[PT]
 go_cut [4]from 9 to 36 (fun s4 wx=>s4=.bool wl/\Hid (ConI W p h wx))
 case first=>
  have k10:w2.cell? ⟨W.heap.size,10,none⟩=some (.bool p.hasWill):=HI.pk.cell 10;clear EU EP EC GU GP GC hsz2 hpl;cases hw:p.hasWill with
  | false=>
   have tm:=HI.wl;have HE:=HWE.out;have HG:=HWG.out;rw[hw]at k10 hwl;have e:wl=eqWill2 p.will:=by have:=hwl.out;simpa using this
   obtain⟨ew,hew⟩:=gen_of (eqWill2 p.will);obtain⟨uv,huv⟩:=gen_of p.will.vals;have iw:(prog.info? 47).map (·.size)=some uv.size:=by rw[<-huv];exact(by kernel_rfl:(prog.info? 47).map (·.size)=some 4)
   rw[hew]at e HE;rw[huv]at tm HE HG;obtain⟨sv,hsv⟩:=gen_of (Value.agg uv);rw[hsv]at HE HG;have hsv:=hid hsv;replace iw:=hid iw;have tok:=hid trivial;subst e;clear huv hew hwl hw hsz1 hbl;cases wl<;>
   ·go_wp2_with (clear tok;refine wLG 47 rfl rfl tm underlying47 hsv.out ?_ iw.out)
    go_meet
    case rel=>exact⟨rfl,HI⟩
  | true=>
   have kt:w2.cell? ⟨W.heap.size+1,0,none⟩=some (.string ⟨p.will.topic.toArray⟩):=HI.wl.cell 0;rw[hw]at k10 hwl;have e:Hid (wl=(nameR p.will.topic&&decide (p.will.body.length<=2000)&&within p.will.qos 0 2)):=hid (by have:=hwl.out;simpa using this);clear hwl hw;have CNx:=CN;obtain⟨nm,hnm⟩:=gen_of (nameR p.will.topic);rw[hnm]at e CNx;obtain⟨wq,hwq⟩:=gen_of (within p.will.qos 0 2);rw[hwq]at e CQ;clear hnm hwq;obtain⟨n,hn⟩:=gen_of p.will.body.length;rw[hn]at e hsz1 hbl;go_wp2_with fail
   refine(CNx.out _).mono ?_;rintro e' w3 ⟨rfl,hb3⟩;have HI3:=hid (HI.step hb3);have kb:w3.cell? ⟨W.heap.size+1,1,none⟩=some (.string ⟨p.will.body.toArray⟩):=HI3.wl.cell 1;have kq:w3.cell? ⟨W.heap.size+1,2,none⟩=some (.int .i64 p.will.qos):=HI3.wl.cell 2;obtain⟨bb,hbb⟩:=gen_of ((⟨p.will.body.toArray⟩:ByteArray):ByteArray);rw[hbb]at kb hsz1;clear hb3 hbb k10 kt;cases nm with
   |false=>
    obtain rfl:wl=false:=by have:=e.out;simpa using this
    go_wp2_with fail
    go_meet
    case rel=>exact⟨rfl,HI3⟩
   | true=>
    by_cases h2:n<=2000
    ·have d:decide ((n:Int)<=2000)=true:=decide_eq_true (by omega);obtain rfl:wl=wq:=by have:=e.out;simpa[h2]using this
     go_wp2_with fail
     refine(CQ _).mono ?_;rintro e' w4 ⟨rfl,rfl⟩;go_wp2_with fail
     go_meet
     case rel=>exact⟨rfl,HI3⟩
    have d:decide ((n:Int)<=2000)=false:=decide_eq_false (by omega);obtain rfl:wl=false:=by have:=e.out;simpa[h2]using this
    go_wp2_with fail
    go_meet
    case rel=>exact⟨rfl,HI3⟩
 case rest=>
  obtain⟨rfl,hIc⟩:=hcut;obtain⟨wa,hwa⟩:=gen_of wc;rw[hwa]at hIc ⊢;clear hwa HI hsz1 hbl hwl CN CQ HWE HWG;have k15:wa.cell? ⟨W.heap.size,15,none⟩=some (.bool p.hasUser):=hIc.out.pk.cell 15;have k16:wa.cell? ⟨W.heap.size,16,none⟩=some (.bool p.hasPass):=hIc.out.pk.cell 16;have k17:wa.cell? ⟨W.heap.size,17,none⟩=some (.string ⟨p.user.toArray⟩):=hIc.out.pk.cell 17;go_upto_region 3 with fail
  try simp only[PT]
  go_cut [5]from 37 to 58 (fun s5 wx=>s5=.bool us/\Hid (ConI W p h wx))
  case first=>
   clear EP EC GP GC hsz2 hpl CC CW;obtain⟨uv,huv⟩:=gen_of (Value.string ⟨p.user.toArray⟩);obtain⟨ue,hue⟩:=gen_of p.user.isEmpty;obtain⟨su,hsu⟩:=gen_of (saidN p.user 200);have EU:=EU.out;have GU:=GU.out;rw[huv]at k17 CU EU GU;rw[hue]at EU hub;rw[hsu]at CU hub;clear huv hue hsu;cases hw:p.hasUser with
   | true=>
    rw[hw]at k15 hub;replace hw:=hid hw;clear EU GU;have e:us=su:=by have:=hub.out;simpa using this
    subst e;clear hub;go_wp2_with fail;refine(CU _).mono ?_;rintro e' w3 ⟨rfl,hb3⟩;have HI3:=hid (hIc.out.step hb3);have j15:w3.cell? ⟨W.heap.size,15,none⟩=some (.bool true):=by rw[<-hw.out];exact HI3.pk.cell 15
    clear hb3;cases us<;>
    ·go_wp2_with fail
     go_meet
     case rel=>exact⟨rfl,HI3⟩
   | false=>
    rw[hw]at k15 hub;have e:us=(ue&& !p.hasPass):=by have:=hub.out;simpa using this
    obtain⟨hp,hhp⟩:=gen_of p.hasPass;rw[hhp]at k16 e;subst e;clear hub hw hhp;cases ue with
    |false=>
     go_wp2_with fail
     go_meet
     case rel=>exact⟨rfl,hIc⟩
    | true=>
     cases hp<;>
     ·go_wp2_with fail
      go_meet
      case rel=>exact⟨rfl,hIc⟩
  case rest=>
   obtain⟨rfl,hId⟩:=hcut;obtain⟨wb,hwb⟩:=gen_of wc;rw[hwb]at hId ⊢;clear hwb hIc hub EU GU CU k15 k16 k17;have k16:wb.cell? ⟨W.heap.size,16,none⟩=some (.bool p.hasPass):=hId.out.pk.cell 16;have k18:wb.cell? ⟨W.heap.size,18,none⟩=some (.string ⟨p.pass.toArray⟩):=hId.out.pk.cell 18;go_upto_region 4 with fail
   try simp only[PT]
   go_cut [6]from 59 to 76 (fun s6 wx=>s6=.bool ps/\wb=wx)
   case first=>
    clear EC GC CC CW;cases hw:p.hasPass with
    | true=>
     rw[hw]at k16 hpb;clear hw EP GP;obtain⟨bb,hbb⟩:=gen_of ((⟨p.pass.toArray⟩:ByteArray):ByteArray);obtain⟨n,hn⟩:=gen_of p.pass.length;rw[hbb]at k18 hsz2;rw[hn]at hsz2 hpl hpb;clear hbb hn;by_cases h2:n<=200
     ·have d:decide ((n:Int)<=200)=true:=decide_eq_true (by omega);obtain rfl:ps=true:=by have:=hpb.out;simpa[h2]using this
      clear hpb;go_wp2_with fail;go_meet
      case rel=>exact⟨rfl,rfl⟩
     have d:decide ((n:Int)<=200)=false:=decide_eq_false (by omega);obtain rfl:ps=false:=by have:=hpb.out;simpa[h2]using this
     clear hpb;go_wp2_with fail;go_meet
     case rel=>exact⟨rfl,rfl⟩
    | false=>
     rw[hw]at k16 hpb;obtain⟨uv,huv⟩:=gen_of (Value.string ⟨p.pass.toArray⟩);obtain⟨ue,hue⟩:=gen_of p.pass.isEmpty;have EP:=EP.out;have GP:=GP.out;rw[huv]at k18 EP GP;rw[hue]at EP hpb;obtain rfl:ps=ue:=by have:=hpb.out;simpa using this
     clear huv hue hpb hw hsz2 hpl;cases ps<;>
     ·go_wp2_with fail
      go_meet
      case rel=>exact⟨rfl,rfl⟩
   case rest=>
    obtain⟨rfl,rfl⟩:=hcut;clear hpb EP GP hsz2 hpl k16 k18;go_upto_region 5 with fail;try simp only[PT]
    have k7:wb.cell? ⟨W.heap.size,7,none⟩=some (.string ⟨p.client.toArray⟩):=hId.out.pk.cell 7;obtain⟨uv,huv⟩:=gen_of (Value.string ⟨p.client.toArray⟩);obtain⟨ce,hce⟩:=gen_of p.client.isEmpty;obtain⟨sc,hsc⟩:=gen_of (saidN p.client 23);obtain⟨wk,hwk⟩:=gen_of (within p.keep 0 65535);have EC:=EC.out;have GC:=GC.out;have huv':=hid huv;rw[huv]at k7 CC EC GC;rw[hce]at EC htot;rw[hsc]at CC htot;rw[hwk]at CW htot;clear huv hce hsc hwk;go_wp2_with fail;refine(CC _).mono ?_;rintro e' w3 ⟨rfl,hb3⟩;have HI3:=hid (hId.out.step hb3);have j8:w3.cell? ⟨W.heap.size,8,none⟩=some (.bool p.clean):=HI3.pk.cell 8;have j7:w3.cell? ⟨W.heap.size,7,none⟩=some uv:=by rw[<-huv'.out];exact HI3.pk.cell 7
    have j9:w3.cell? ⟨W.heap.size,9,none⟩=some (.int .i64 p.keep):=HI3.pk.cell 9;obtain⟨cl,hcl⟩:=gen_of p.clean;rw[hcl]at j8 htot;clear hb3 hcl hId k7;cases sc with
    |false=>
     go_wp2_with fail
     go_ret;exact⟨by rw[htot.out];simp,HI3.below⟩
    | true=>
     cases cl with
     | true=>
      go_wp2_with fail
      refine(CW _).mono ?_;rintro e' w4 ⟨rfl,rfl⟩;cases wk<;>cases wl<;>cases us<;>
      ·go_wp2_with fail
       go_ret;exact⟨by rw[htot.out];simp,HI3.below⟩
     | false=>
      cases ce with
      |true=>
       go_wp2_with fail
       go_ret;exact⟨by rw[htot.out];simp,HI3.below⟩
      | false=>
       go_wp2_with fail
       refine(CW _).mono ?_;rintro e' w4 ⟨rfl,rfl⟩;cases wk<;>cases wl<;>cases us<;>
       ·go_wp2_with fail
        go_ret;exact⟨by rw[htot.out];simp,HI3.below⟩
def bCl(b:Bool):List Value:=[.bool b]
def sumT:List Bool->List Int->Int
 | b::bs,x::xs=>(if b then x else 0)+sumT bs xs
 | _,_=>0
theorem sumT_snoc:∀(ts:List Bool)(ls:List Int)(j:Nat)(b:Bool)(x:Int),ts[j]?=some b->ls[j]?=some x->sumT (ts.take (j+1)) ls=sumT (ts.take j) ls+(if b then x else 0)
 | [],ls,j,b,x,h,_=>by simp at h
 | t::ts,[],j,b,x,_,h=>by simp at h
 |t::ts,l::ls,0,b,x,h,h2=>by simp at h h2;subst h h2;simp[sumT]
 |t::ts,l::ls,j+1,b,x,h,h2=>by have:=sumT_snoc ts ls j b x (by simpa using h) (by simpa using h2);simp only[List.take_succ_cons,sumT,this];omega
theorem sumT_lim:∀(ts:List Bool)(ls:List Int),(∀z∈ls,0<=z/\z<=1000)->0<=sumT ts ls/\sumT ts ls<=1000*ts.length
 | [],ls,_=>by simp[sumT]
 | t::ts,[],_=>by simp[sumT];omega
 |t::ts,l::ls,h=>by have h1:=h l (List.mem_cons_self ..);have h2:=sumT_lim ts ls fun z hz=>h z (List.mem_cons_of_mem _ hz);simp only[sumT,List.length_cons];split<;>omega
theorem pk_bits1(ls:List Int)(ts:List Bool)(la:Option Addr)(ln lc:Nat)(ta:Option Addr)(tn tc b:Nat)(w:World)(hb:Boxed w b 49 (.slice la ln lc))(hl:LsAt iCl 1 w la ln lc ls)(ht:LsAt bCl 1 w ta tn tc ts)(hn:tn<=ln)(hm:tn<=100)(hz:∀z∈ls,0<=z/\z<=1000):
  Calls prog 243 #[.slice ta tn tc,.pointer (some ⟨b,0,none⟩)] w fun e w'=>e=.returned (.int .i64 (sumT ts ls))/\w=w':=by
 have k0:=hb.cell;have HL:=hid hl;have HT:=hid ht;have HZ:=hid hz;have hll:=hid hl.len;have htl:=hid ht.len;have hlm:ln<=9223372036854775807:=by have:=hl.le;have:=hl.max;unfold maxLen at this;omega
 clear hl ht hz hb;go_enter func243,ntmps243;go_wp2_with fail
 go_loopw [4,9] (fun v i wr=>∃j:Nat,i=.int .i64 j/\v=.int .i64 (sumT (ts.take j) ls)/\j<=tn/\w=wr) (fun _ i _=>tn-(intOf i).toNat)
 case atStart=>exact⟨0,by go_num,by simp[sumT],Nat.zero_le _,rfl⟩
 case round=>
  obtain⟨j,rfl,rfl,hj,rfl⟩:=hrel;by_cases hlt:j<tn
  ·obtain⟨x,hx⟩:∃x,ls[j]?=some x:=⟨_,List.getElem?_eq_getElem (by rw[hll.out];omega)⟩;obtain⟨t,ht⟩:∃x,ts[j]?=some x:=⟨_,List.getElem?_eq_getElem (by rw[htl.out];exact hlt)⟩;obtain⟨g1,o1,ha1,hr1⟩:=HL.range hx;obtain⟨g2,o2,ha2,hr2⟩:=HT.range ht;have c1:=hr1 _ bel_refl 0 (.int .i64 x) rfl;have c2:=hr2 _ bel_refl 0 (.bool t) rfl;simp only[Nat.mul_one,Nat.add_zero]at c1 c2;subst ha1 ha2;have hsn:=hid (sumT_snoc ts ls j t x ht hx);have h1:=HZ x (List.mem_of_getElem? hx);have h2:=sumT_lim (ts.take j) ls HZ.out;have h3:(ts.take j).length<=100:=by simp;omega
   obtain⟨s,hs⟩:=gen_of (sumT (ts.take j) ls);rw[hs]at h2 hsn ⊢;have hs0:0<=s:=h2.1;have hs1:s<=100000:=by omega
   have hx0:=h1.1;have hx1:=h1.2;clear hr1 hr2 hs h1 h2 h3 ht hx;cases t with
   |true=>
    have hsn2:Hid (sumT (ts.take (j+1)) ls=s+x):=hid (by rw[hsn.out];simp);go_wp2_with fail
    go_roundw
    case rel=>exact⟨j+1,by go_num,by rw[hsn2],by omega,trivial⟩
    case measure=>simp[intOf];omega
   |false=>
    have hsn2:Hid (sumT (ts.take (j+1)) ls=s):=hid (by rw[hsn.out];simp);go_wp2_with fail
    go_roundw
    case rel=>exact⟨j+1,by go_num,by rw[hsn2],by omega,trivial⟩
    case measure=>simp[intOf];omega
  obtain rfl:j=tn:=by omega
  rw[List.take_of_length_le (by rw[htl.out];exact Nat.le_refl _)];go_wp2_with fail
  go_ret;exact⟨rfl,rfl⟩
theorem pk_bits(a:Option Addr)(n c:Nat)(w:World):Calls prog 207 #[.slice a n c] w fun e w'=>e=.returned (.func (.func 243) #[] #[.pointer (some ⟨w.heap.size,0,none⟩)])/\w.alloc (.cells #[.slice a n c] 49)=w':=by
 have hmf:∀(fn:Fn)(first cap:Array Value)(w:World),(Instr.makeFunc fn first cap).run prog w=.ok (.func fn first cap) w:=fun _ _ _ _=>rfl;go_enter func207,ntmps207;go_wp2_with fail
 go_ret;exact⟨rfl,rfl⟩
def oneR:Array Value:=(sessV [120] 0 1).vals
theorem oneR_one:∀v∈oneR.toList,v.oneCell'=true:=by decide
def obV(wi ro:Int):Array Value:=#[.string ⟨#[120]⟩,.int .i64 wi,.int .i64 ro,.int .i64 0,.int .i64 1,.slice none 0 0,.slice none 0 0,.slice none 0 0]
def obZ:Array Value:=#[.string ⟨#[]⟩,.int .i64 0,.int .i64 0,.int .i64 0,.int .i64 0,.slice none 0 0,.slice none 0 0,.slice none 0 0]
theorem obV_one(wi ro:Int):∀v∈(obV wi ro).toList,v.oneCell'=true:=by simp[obV,Value.oneCell']
theorem obZ_one:∀v∈obZ.toList,v.oneCell'=true:=by decide
theorem r22_under1(wi ro:Int)(w:World):Calls prog 174 #[.agg (obV wi ro)] w fun e w'=>e=.returned (.int .i64 0)/\Below w.heap.size w w':=by
 have hB:=hid (Blk.new w (obV wi ro) 126);have k5:(w.alloc (.cells (obV wi ro) 126)).cell? ⟨w.heap.size,5,none⟩=some (.slice none 0 0):=hB.cell 5;go_enter func174,ntmps174;go_wp2_with fail
 go_loopw [3,4] (fun n i wr=>n=.int .i64 0/\i=.int .i64 0/\wr=w.alloc (.cells (obV wi ro) 126)) (fun _ _ _=>0)
 case atStart=>exact⟨rfl,rfl,rfl⟩
 case round=>
  obtain⟨rfl,rfl,rfl⟩:=hrel;go_wp2_with fail
  go_ret;exact⟨rfl,(Below.refl _ w).alloc nat_le_rfl _⟩
structure OneP (f:Bool->Array Value)(R:Prop)(w:World)(e:Ending)(w':World):Prop where
 out:∃b:Bool,e=.returned (.tuple #[.agg (f b),.bool b])/\(b=true↔R)
 below:Below w.heap.size w w'
theorem r22_Of1(wi ro:Int)(w:World):Calls prog 108 #[.int .i64 wi,.int .i64 ro,.agg oneR,.slice none 0 0] w (OneP (fun b=>if b then obV wi ro else obZ) ((1<=wi/\wi<=100)/\(1<=ro/\ro<=1000)) w):=by
 have hR:Blk ((w.alloc (.cells oneR 136)).alloc (.cells obZ 126)) w.heap.size oneR 136:=(Blk.new _ _ _).alloc _;have hZ:Hid (Blk ((w.alloc (.cells oneR 136)).alloc (.cells obZ 126)) (w.heap.size+1) obZ 126):=hid (Blk.new_at _ _ _ _ (by simp));have b0:Hid (Below w.heap.size w ((w.alloc (.cells oneR 136)).alloc (.cells obZ 126))):=hid ((bel_refl.alloc nat_le_rfl _).alloc (by simp) _);have k0:((w.alloc (.cells oneR 136)).alloc (.cells obZ 126)).cell? ⟨w.heap.size,0,none⟩=some (.int .i64 1):=hR.cell 0;have hRh:=hid hR;unfold obZ at k0 hR;go_enter func108,ntmps108;by_cases q1:wi<1
 ·have d1:decide (wi<1)=true:=decide_eq_true q1;go_wp2_with (refine wS 126 8 rfl (w.heap.size+1) _ obZ rfl rfl hZ.out rfl rfl obZ_one ?_;intro w9 hw9 hr9)
  refine bodyPost_ret (results_ct1 results108 rfl (run_loadVar_blk hw9 126 underlying126 rfl (by kernel_rfl)) rfl) rfl ?_;exact⟨⟨false,rfl,by simp;omega⟩,b0.trans (hr9.below b0.size (by simp))⟩
 have d1:decide (wi<1)=false:=decide_eq_false q1;by_cases q2:100<wi
 ·have d2:decide (100<wi)=true:=decide_eq_true q2;go_wp2_with (refine wS 126 8 rfl (w.heap.size+1) _ obZ rfl rfl hZ.out rfl rfl obZ_one ?_;intro w9 hw9 hr9)
  refine bodyPost_ret (results_ct1 results108 rfl (run_loadVar_blk hw9 126 underlying126 rfl (by kernel_rfl)) rfl) rfl ?_;exact⟨⟨false,rfl,by simp;omega⟩,b0.trans (hr9.below b0.size (by simp))⟩
 have d2:decide (100<wi)=false:=decide_eq_false q2;by_cases q3:ro<1
 ·have d3:decide (ro<1)=true:=decide_eq_true q3;go_wp2_with (refine wS 126 8 rfl (w.heap.size+1) _ obZ rfl rfl hZ.out rfl rfl obZ_one ?_;intro w9 hw9 hr9)
  refine bodyPost_ret (results_ct1 results108 rfl (run_loadVar_blk hw9 126 underlying126 rfl (by kernel_rfl)) rfl) rfl ?_;exact⟨⟨false,rfl,by simp;omega⟩,b0.trans (hr9.below b0.size (by simp))⟩
 have d3:decide (ro<1)=false:=decide_eq_false q3;by_cases q4:1000<ro
 ·have d4:decide (1000<ro)=true:=decide_eq_true q4;go_wp2_with (refine wS 126 8 rfl (w.heap.size+1) _ obZ rfl rfl hZ.out rfl rfl obZ_one ?_;intro w9 hw9 hr9)
  refine bodyPost_ret (results_ct1 results108 rfl (run_loadVar_blk hw9 126 underlying126 rfl (by kernel_rfl)) rfl) rfl ?_;exact⟨⟨false,rfl,by simp;omega⟩,b0.trans (hr9.below b0.size (by simp))⟩
 have d4:decide (1000<ro)=false:=decide_eq_false q4;have d5:decide (ro<0)=false:=decide_eq_false (by omega);have d6:decide (0<=wi)=true:=decide_eq_true (by omega);go_wp2_with (refine wLG 136 rfl rfl hR underlying136 rfl ?_ (by kernel_rfl))
 refine(r19_Right_sess [120] 0 1 _ (by kernel_rfl) (by decide) (by decide)).mono ?_;rintro e w1 ⟨rfl,hb1⟩;have hR1:=hRh.below hb1;have k1:w1.cell? ⟨w.heap.size,1,none⟩=some (.string ⟨#[120]⟩):=hR1.cell 1;have k2:w1.cell? ⟨w.heap.size,2,none⟩=some (.int .i64 0):=hR1.cell 2;have k3:w1.cell? ⟨w.heap.size,3,none⟩=some (.int .i64 1):=hR1.cell 3;have B1:=hid (b0.trans (hb1.mono b0.size));have Z1:=hid (hZ.below hb1);clear hb1 hR hR1 k0 hRh;have BN:=Blk.new w1 obZ 126;unfold obZ at BN;go_upto_region 4 with(refine wS 126 8 rfl w1.heap.size _ (obV wi ro) rfl rfl BN rfl rfl (obV_one wi ro) ?_;intro w3 hw3 hr3)
 have B3:=hid ((B1.alloc B1.size _).trans (hr3.below (by have:=B1.size;simp;omega) (by have:=B1.size;simp;omega)));have Z3:=hid ((Z1.alloc (.cells obZ 126)).keepW hr3 (by have:=Z1.lt;simp;omega));have hne:Hid (w1.heap.size≠w.heap.size+1):=hid (by have:=Z1.lt;omega);obtain⟨g,hg⟩:=gen_of w1.heap.size;rw[hg]at hw3 hne ⊢;have hw3:=hid hw3;clear hr3 BN k1 k2 k3 hg Z1 B1;go_wp2_with fail;go_loopw [11] (fun i wr=>i=.int .i64 0/\wr=w3) (fun _ _=>0)
 case atStart=>exact⟨rfl,rfl⟩
 case round=>
  obtain⟨rfl,rfl⟩:=hrel;go_upto_region 21 with fail
  try simp only[PT]
  refine regionQ [(1000,fun w'=>Blk w' g (obV wi ro) 126)] (by kernel_rfl) ⟨hw3.out,trivial⟩ fun KQ hKQ=>?_;try simp only[PT]
  refine lR 0 0 rfl rfl rfl rfl (fun w' hf=>run_load_blk hf 126 underlying126 rfl (by kernel_rfl)) ?_;simp only[PT];refine lR 1 0 rfl rfl rfl rfl (fun w' hf=>run_load_blk hf 126 underlying126 rfl (by kernel_rfl)) ?_;simp only[PT];refine tQ [3] ?_;refine sQ 2 fun K hK=>?_;simp only[GO];go_simp;refine(r22_under1 wi ro _).mono ?_;rintro e w5 ⟨rfl,hb5⟩;have W5:=hw3.drew.below hb5;have Z5:=Z3.drew.below hb5;have B5:=B3.drew.trans (hb5.mono B3.drew.size);refine hK _ _ ⟨⟨fun _=>W5,trivial⟩,?_⟩;clear hK K;try simp only[PT]
  refine tQ [4] ?_;refine sQ 5 fun K hK=>?_;simp only[GO];refine wW 126 8 rfl (w.heap.size+1) _ (obV wi ro) rfl rfl Z5 rfl rfl (obV_one wi ro) fun w6 h6 g6=>?_;refine hK _ _ ⟨⟨fun _=>W5.keepW g6 (by simpa using hne.out),trivial⟩,?_⟩;clear hK K;try simp only[PT]
  refine tQ [6] ?_;refine dQ (hKQ.out _ _ ?_);clear hKQ KQ;go_wp2;refine bodyPost_ret (results_ct1 results108 rfl (run_loadVar_blk h6 126 underlying126 rfl (by kernel_rfl)) rfl) rfl ?_;exact⟨⟨true,rfl,by simp;omega⟩,B5.trans (g6.below B5.size (by simp))⟩
end
end Go.Proofs.YtkghejaimhoboaaGreatDoor
