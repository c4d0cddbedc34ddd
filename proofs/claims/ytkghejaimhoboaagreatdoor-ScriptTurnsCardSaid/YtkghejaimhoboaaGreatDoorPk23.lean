/- Parts of the proof of ScriptTurns. -/
import Derived.Test.YtkghejaimhoboaaGreatDoorPk20
import Derived.Deep.CutRange
set_option linter.unusedSimpArgs false
set_option linter.unusedVariables false
set_option maxRecDepth 100000
set_option maxHeartbeats 8000000
namespace Go.Proofs.YtkghejaimhoboaaGreatDoor
open Go.RowKit Go.Shelf Go.Proofs.Tryz
section
attribute [local go_sem] Oper.semAt_some
theorem lF(n lo hi:Int)(w:World):Calls prog 124 #[.int .i64 n,.int .i64 lo,.int .i64 hi] w fun e w'=>e=.returned (.bool (within n lo hi))/\w=w':=by
 unfold within;by_cases h1:lo<=n
 ·by_cases h2:n<=hi<;>
  ·go_enter func124,ntmps124;go_wp2;go_ret;exact⟨by simp[h1,h2],rfl⟩
 ·go_enter func124,ntmps124;go_wp2;go_ret;exact⟨by(simp;omega),rfl⟩
theorem yS(n:Int)(w:World):Calls prog 136 #[.int .i64 n] w fun e w'=>e=.returned (.bool (within n 0 2))/\w=w':=by
 have CW:=af (lF n 0 2 w);go_enter func136,ntmps136;go_wp2_with fail
 refine CW.mono ?_;rintro e w1 ⟨rfl,rfl⟩;go_wp2_with fail
 go_ret;exact⟨rfl,rfl⟩
theorem Iq(s:List UInt8):(iF s==0)=decide (cr s= -1):=by
 unfold iF;have:=nO s;by_cases h:0<=cr s
 ·rw[if_pos h,decide_eq_false (by omega)];rfl
 rw[if_neg h,decide_eq_true (by omega)];rfl
theorem FT(s:List UInt8)(m:Nat)(w:World)(hs:s.length<=4611686018427387904)(hm:m<=1000000):Calls prog 199 #[.string ⟨s.toArray⟩,.int .i64 m] w (dD (gQ s m) w):=by
 unfold gQ;have hsz:ByteArray.size ⟨s.toArray⟩=s.length:=by simp[ByteArray.size]
 have Zl:=Iq s;by_cases h1:s.length<=m
 ·have CC:=af (rC s w (by omega));obtain⟨n,hn⟩:=ae s.length;obtain⟨b,hb⟩:=ae (decide (cr s= -1));obtain⟨z,hz⟩:=ae (iF s);obtain⟨sb,eD⟩:=ae ((⟨s.toArray⟩:ByteArray):ByteArray);rw[hn]at hsz h1 hs ⊢;rw[hz,hb]at Zl;rw[eD]at hsz CC ⊢;rw[hz]at CC;rw[hb];have d:decide ((n:Int)<=m)=true:=decide_eq_true (by omega);clear hn hb hz eD;go_enter func199,ntmps199;go_wp2_with fail
  refine CC.mono ?_;rintro e w1 ⟨rfl,hb1⟩;have HB:=af hb1;clear hb1;go_wp2_with fail;go_ret;exact⟨by simp[h1],HB.out⟩
 obtain⟨n,hn⟩:=ae s.length;obtain⟨sb,eD⟩:=ae ((⟨s.toArray⟩:ByteArray):ByteArray);rw[hn]at hsz h1 hs ⊢;rw[eD]at hsz ⊢;have d:decide ((n:Int)<=m)=false:=decide_eq_false (by omega);clear hn eD Zl;go_enter func199,ntmps199;go_wp2_with fail
 go_ret;exact⟨by simp[h1],Below.refl _ _⟩
theorem rQ(v:Array Value)(w:World):Calls prog 120 #[.agg v] w (dD true w):=by
 have hb:Below w.heap.size w (w.alloc (.cells v 52)):=ai.alloc ah _;go_enter func120,ntmps120;go_wp2_with fail
 go_ret;exact⟨rfl,hb⟩
theorem lG(v:Array Value)(w:World):Calls prog 212 #[.agg v] w (dD true w):=by
 have hb:Below w.heap.size w (w.alloc (.cells v 52)):=ai.alloc ah _;go_enter func212,ntmps212;go_wp2_with fail
 go_ret;exact⟨rfl,hb⟩
theorem Ir(p:Pk)(h:H3)(W:World):Calls prog 123 #[.agg (p.cells h).toArray] W (dD (uY p) W):=by
 have CW:=af (lF p.code 0 5);unfold uY;obtain⟨xc,cR⟩:=ae ((p.cells h).toArray);have hB:ar (W.alloc (.cells xc 52)) W.heap.size xc 52:=ar.new _ _ _;have hb:Below W.heap.size W (W.alloc (.cells xc 52)):=ai.alloc ah _;have ix:(prog.info? 52).map (·.size)=some xc.size:=by rw[<-cR];exact(by kernel_rfl:(prog.info? 52).map (·.size)=some 24)
 replace hb:=af hb;have Qx:∀W',Below (W.alloc (.cells xc 52)).heap.size (W.alloc (.cells xc 52)) W'->W'.cell? ⟨W.heap.size,20,none⟩=some (.int .i64 p.code):=fun W' h=>by rw[(hB.ag h).cell,<-cR];rfl
 have U4:(W.alloc (.cells xc 52)).cell? ⟨W.heap.size,19,none⟩=some (.bool p.present):=by rw[hB.cell,<-cR];rfl
 have Qx:=Qx _ ai;obtain⟨c,hc⟩:=ae p.code;obtain⟨q,hq⟩:=ae p.present;obtain⟨b,lN⟩:=ae (within c 0 5);rw[hc]at Qx CW ⊢;rw[hq]at U4 ⊢;rw[lN]at CW ⊢;rw[cR];clear cR hB ix hq hc lN;by_cases h0:c=0
 ·subst h0;cases b<;>cases q<;>
  ·go_enter func123,ntmps123;go_wp2_with fail
   refine(CW _).mono ?_;rintro e w1 ⟨rfl,rfl⟩;go_wp2_with fail
   go_ret;exact⟨rfl,hb.out⟩
 have d0:(c==0)=false:=by simpa using h0
 cases b<;>cases q<;>
 ·go_enter func123,ntmps123;go_wp2_with fail
  refine(CW _).mono ?_;rintro e w1 ⟨rfl,rfl⟩;go_wp2_with fail
  go_ret;exact⟨by simp[h0],hb.out⟩
structure yT (p:Pk):Prop where
 topic:p.topic.length<=2000000
 body:p.body.length<=2000000
 client:p.client.length<=2000000
 wt:p.will.topic.length<=2000000
 wb:p.will.body.length<=2000000
 user:p.user.length<=2000000
 pass:p.pass.length<=2000000
 wants:∀x∈p.wants,x.filter.length<=2000000
 filters:∀x∈p.filters,x.length<=2000000
def LB(p:Pk):Bool:=(decide (p.qos=0)&&decide (p.id=0)&& !p.dup)||(decide (0<p.qos)&&within p.id 1 65535)
theorem Iu(p:Pk)(h:H3)(W:World)(hs:yT p):Calls prog 204 #[.agg (p.cells h).toArray] W (dD (fy p) W):=by
 have CN:=af (fun W'=>uE p.topic W' (by have:=hs.topic;omega) (Kc p.topic (by have:=hs.topic;omega)));have CW:=af (lF p.id 1 65535);have CQ:=af (yS p.qos);have hbl:=hs.body;have hm:fy p=(en p.topic&&decide (p.body.length<=2000)&&within p.qos 0 2&&LB p):=rfl;rw[hm];have AR:LB p=((decide (p.qos=0)&&decide (p.id=0)&& !p.dup)||(decide (0<p.qos)&&within p.id 1 65535)):=rfl;have hsz:ByteArray.size ⟨p.body.toArray⟩=p.body.length:=by simp[ByteArray.size]
 obtain⟨xc,cR⟩:=ae ((p.cells h).toArray);have hB:ar (W.alloc (.cells xc 52)) W.heap.size xc 52:=ar.new _ _ _;have hb:Below W.heap.size W (W.alloc (.cells xc 52)):=ai.alloc ah _;have ix:(prog.info? 52).map (·.size)=some xc.size:=by rw[<-cR];exact(by kernel_rfl:(prog.info? 52).map (·.size)=some 24)
 replace hb:=af hb;clear hm hs;have k1:(W.alloc (.cells xc 52)).cell? ⟨W.heap.size,1,none⟩=some (.bool p.dup):=by rw[hB.cell,<-cR];rfl
 have k3:(W.alloc (.cells xc 52)).cell? ⟨W.heap.size,3,none⟩=some (.int .i64 p.qos):=by rw[hB.cell,<-cR];rfl
 have k4:(W.alloc (.cells xc 52)).cell? ⟨W.heap.size,4,none⟩=some (.string ⟨p.topic.toArray⟩):=by rw[hB.cell,<-cR];rfl
 have k6:(W.alloc (.cells xc 52)).cell? ⟨W.heap.size,6,none⟩=some (.int .i64 p.id):=by rw[hB.cell,<-cR];rfl
 have kb:Hid (∀W',Below (W.alloc (.cells xc 52)).heap.size (W.alloc (.cells xc 52)) W'->W'.cell? ⟨W.heap.size,5,none⟩=some (.string ⟨p.body.toArray⟩)/\W'.cell? ⟨W.heap.size,3,none⟩=some (.int .i64 p.qos)):=af fun W' h=>⟨by rw[(hB.ag h).cell,<-cR];rfl,by rw[(hB.ag h).cell,<-cR];rfl⟩;obtain⟨n,hn⟩:=ae p.body.length;obtain⟨bb,lN⟩:=ae ((⟨p.body.toArray⟩:ByteArray):ByteArray);obtain⟨tb,SP⟩:=ae ((⟨p.topic.toArray⟩:ByteArray):ByteArray);obtain⟨nm,vZ⟩:=ae (en p.topic);obtain⟨ib,hib⟩:=ae (LB p);obtain⟨z,hz⟩:=ae p.qos;obtain⟨i,hi⟩:=ae p.id;obtain⟨q,hq⟩:=ae p.dup;obtain⟨wq,QN⟩:=ae (within z 0 2);obtain⟨wi,hwi⟩:=ae (within i 1 65535);rw[hib,hz,hi,hq,hwi]at AR;rw[hn]at hsz hbl ⊢;rw[lN]at hsz kb;rw[SP]at k4 CN;rw[vZ]at CN ⊢;rw[hz]at k3 kb CQ ⊢;rw[hi]at k6 CW;rw[hq]at k1;rw[QN]at CQ ⊢;rw[hwi]at CW;rw[hib,cR];replace AR:=af AR;clear cR hB ix hn lN SP vZ hib hz hi hq QN hwi;obtain⟨W0,hW0⟩:=ae (W.alloc (.cells xc 52));rw[hW0]at k1 k3 k4 k6 kb hb;go_enter func204,ntmps204;go_upto_region 1 with fail
 clear hW0;go_cut [3]from 4 to 26 (fun s3 wx=>s3=.bool ib/\W0=wx)
 case first=>
  by_cases hz:z=0
  ·subst hz;by_cases hi:i=0
   ·subst hi;have e:ib= !q:=by have:=AR.out;simpa using this
    subst e;cases q<;>
    ·go_wp2_with fail
     go_meet
     case rel=>exact⟨rfl,rfl⟩
   have e:ib=false:=by have:=AR.out;simpa[hi]using this
   have d0:(i==0)=false:=by simpa using hi
   subst e;go_wp2_with fail;go_meet
   case rel=>exact⟨rfl,rfl⟩
  have d0:(z==0)=false:=by simpa using hz
  by_cases h0:0<z
  ·have e:ib=wi:=by have:=AR.out;simpa[hz,h0]using this
   subst e;go_wp2_with fail;refine(CW _).mono ?_;rintro e w1 ⟨rfl,rfl⟩;go_wp2_with fail
   go_meet
   case rel=>exact⟨rfl,rfl⟩
  have e:ib=false:=by have:=AR.out;simpa[hz,h0]using this
  have d1:decide (0<z)=false:=decide_eq_false h0;subst e;go_wp2_with fail;go_meet
  case rel=>exact⟨rfl,rfl⟩
 case rest=>
  obtain⟨rfl,rfl⟩:=hcut;clear AR;go_wp2_with fail;refine(CN _).mono ?_;rintro e w1 ⟨rfl,hb1⟩;obtain⟨c5,c3⟩:=kb _ hb1;have HB:=af (hb.trans (hb1.mono hb.size));clear hb1;cases nm with
  |false=>
   go_wp2_with fail
   go_ret;exact⟨rfl,HB.out⟩
  | true=>
   by_cases hn:n<=2000
   ·have d:decide ((n:Int)<=2000)=true:=decide_eq_true (by omega);go_wp2_with fail
    refine(CQ _).mono ?_;rintro e w2 ⟨rfl,rfl⟩;cases wq<;>
    ·go_wp2_with fail
     go_ret;exact⟨by simp[hn],HB.out⟩
   have d:decide ((n:Int)<=2000)=false:=decide_eq_false (by omega);go_wp2_with fail
   go_ret;exact⟨by simp[hn],HB.out⟩
theorem FU(x:List UInt8)(W:World):(binOp .eql 9 (.string ⟨x.toArray⟩) (.string ⟨#[]⟩)).run prog W=.ok (.bool x.isEmpty) W:=by go_simp
theorem QO(x:List UInt8)(W:World):(binOp .neq 9 (.string ⟨x.toArray⟩) (.string ⟨#[]⟩)).run prog W=.ok (.bool (!x.isEmpty)) W:=by go_simp
theorem FV(x:List UInt8)(s1 s2:Operand)(W:World):(eqGuard .eql 9 s1 s2 (.string ⟨x.toArray⟩) (.string ⟨#[]⟩)).run prog W=.ok () W:=by go_simp
theorem LF(x:List UInt8)(s1 s2:Operand)(W:World):(eqGuard .neq 9 s1 s2 (.string ⟨x.toArray⟩) (.string ⟨#[]⟩)).run prog W=.ok () W:=by go_simp
theorem Tw(u:gp)(W:World):(binOp .eql 47 (.agg u.vals) (.agg #[.string ⟨#[]⟩,.string ⟨#[]⟩,.int .i64 0,.bool false])).run prog W=.ok (.bool (fJ u)) W:=by
 obtain⟨t,b,q,r⟩:=u;unfold gp.vals fJ;go_simp;by_cases h1:t=[]
 ·by_cases h2:b=[]
  ·by_cases h3:q=0
   ·cases r<;>simp[h1,h2,h3]
   simp[h1,h2,h3]
  simp[h1,h2]
 simp[h1]
theorem Tx(u:gp)(s1 s2:Operand)(W:World):(eqGuard .eql 47 s1 s2 (.agg u.vals) (.agg #[.string ⟨#[]⟩,.string ⟨#[]⟩,.int .i64 0,.bool false])).run prog W=.ok () W:=by obtain⟨t,b,q,r⟩:=u;unfold gp.vals;go_simp
theorem LG{P:Program}{w:World}{ops:Array Oper}{rest:List Oper}{op:Oper}{a:Act}{Q:Exit->Act->World->Prop}(ty:TypeId){x:Operand}(ho:op.op=.load ty x){b:Nat}{cs:Array Value}{T:TypeId}(hx:a.eval x=.pointer (some ⟨b,0,none⟩))(hb:ar w b cs T){d:TypeDesc}(hu:P.underlying ty=some d)
  {v:Value} (hv:Value.agg cs=v) (h:wpList P ops Q rest (a.put op.dst v) w) (hi:(P.info? ty).map (·.size)=some cs.size) (hw:Region.wanted op (yielded ops a.tmps)=true:=by kernel_rfl) (hd:d.isRow=true:=by rfl):wpList P ops Q (op::rest) a w:=by
 subst hv;have hl:=aM (P:=P) hb ty hu hd hi;unfold wpList;rw[if_pos hw];refine .inl ?_;unfold Oper.wp execOp;simp only[ho,hx,Sem.run_bind,hl,Result.andThen_ok,Sem.run_pure];exact h
def AU(p:Pk):Bool:=(!p.hasWill&&fJ p.will)||(p.hasWill&&en p.will.topic&&decide (p.will.body.length<=2000)&&within p.will.qos 0 2)
def AV(p:Pk):Bool:=(p.hasUser&&gQ p.user 200)||(!p.hasUser&&p.user.isEmpty&& !p.hasPass)
def AW(p:Pk):Bool:=(p.hasPass&&decide (p.pass.length<=200))||(!p.hasPass&&p.pass.isEmpty)
theorem FX(p:Pk):oo p=(gQ p.client 23&&(p.clean|| !p.client.isEmpty)&&within p.keep 0 65535&&AU p&&AV p&&AW p):=rfl
structure Iw (W:World)(p:Pk)(h:H3)(w:World):Prop where
 ag:Below W.heap.size W w
 pk:ar w W.heap.size (p.cells h).toArray 52
 wl:ar w (W.heap.size+1) p.will.vals 47
theorem Iw.step{W:World}{p:Pk}{h:H3}{w w':World}(x:Iw W p h w)(hb:Below w.heap.size w w'):Iw W p h w':=⟨x.ag.trans (hb.mono x.ag.size),x.pk.ag hb,x.wl.ag hb⟩
theorem Iy(p:Pk)(h:H3)(W:World)(hs:yT p):Calls prog 197 #[.agg (p.cells h).toArray] W (dD (oo p) W):=by
 have CN:=af (fun W'=>uE p.will.topic W' (by have:=hs.wt;omega) (Kc p.will.topic (by have:=hs.wt;omega)));have CQ:=af (yS p.will.qos);have CU:=af (fun W'=>FT p.user 200 W' (by have:=hs.user;omega) (by decide));have CC:=af (fun W'=>FT p.client 23 W' (by have:=hs.client;omega) (by decide));have CW:=af (lF p.keep 0 65535);have Ty:=af (fun W=>Tw p.will W);have Tz:=af (fun s1 s2 W=>Tx p.will s1 s2 W);have hbl:=hs.wb;have hpl:=hs.pass;have gj:=af (FX p);obtain⟨xV,ht⟩:=ae (oo p);rw[ht]at gj ⊢;clear ht;have wM:Hid (AU p=((!p.hasWill&&fJ p.will)||(p.hasWill&&en p.will.topic&&decide (p.will.body.length<=2000)&&within p.will.qos 0 2))):=af rfl;have wR:Hid (AV p=((p.hasUser&&gQ p.user 200)||(!p.hasUser&&p.user.isEmpty&& !p.hasPass))):=af rfl;have kF:Hid (AW p=((p.hasPass&&decide (p.pass.length<=200))||(!p.hasPass&&p.pass.isEmpty))):=af rfl;have EU:=af (FU p.user);have EP:=af (FU p.pass);have EC:=af (QO p.client);have GU:=af (FV p.user);have GP:=af (FV p.pass);have GC:=af (LF p.client);have pq:ByteArray.size ⟨p.will.body.toArray⟩=p.will.body.length:=by simp[ByteArray.size]
 have oh:ByteArray.size ⟨p.pass.toArray⟩=p.pass.length:=by simp[ByteArray.size]
 obtain⟨xc,cR⟩:=ae ((p.cells h).toArray);have hB:ar (W.alloc (.cells xc 52)) W.heap.size xc 52:=ar.new _ _ _;have hb:Below W.heap.size W (W.alloc (.cells xc 52)):=ai.alloc ah _;have ix:(prog.info? 52).map (·.size)=some xc.size:=by rw[<-cR];exact(by kernel_rfl:(prog.info? 52).map (·.size)=some 24)
 replace hb:=af hb;have Xr:=hB.mid ((p.cells h).take 11) [.string ⟨p.will.topic.toArray⟩,.string ⟨p.will.body.toArray⟩,.int .i64 p.will.qos,.bool p.will.retain] ((p.cells h).drop 15) (by rw[<-cR];rfl);have HBx:=af (show ar (W.alloc (.cells xc 52)) W.heap.size (p.cells h).toArray 52 from by rw[cR];exact hB);rw[cR];have aV:Hid (∀v∈#[Value.string ⟨p.will.topic.toArray⟩,.string ⟨p.will.body.toArray⟩,.int .i64 p.will.qos,.bool p.will.retain].toList,v.oneCell'=true):=af (by simp[Value.oneCell']);have hZ:ar ((W.alloc (.cells xc 52)).alloc (.cells #[.string ⟨#[]⟩,.string ⟨#[]⟩,.int .i64 0,.bool false] 47)) (W.heap.size+1) #[.string ⟨#[]⟩,.string ⟨#[]⟩,.int .i64 0,.bool false] 47:=by have:=ar.new (W.alloc (.cells xc 52)) #[.string ⟨#[]⟩,.string ⟨#[]⟩,.int .i64 0,.bool false] 47;simpa using this
 clear hB ix hs;go_enter func197,ntmps197;go_upto_region 2 with(first
  | (refine sF 47 rfl rfl Xr underlying47 ?_)
  | (refine wS 47 4 rfl (W.heap.size+1) _ _ rfl rfl hZ rfl rfl aV.out ?_;intro w2 hw2 hr2))
 have hI:Iw W p h w2:=by
  have hb1:=hb.out;have hz:(W.alloc (.cells xc 52)).heap.size=W.heap.size+1:=by simp
  refine⟨(hb1.alloc hb1.size _).trans (hr2.ag (by simp;omega) (by simp)),(HBx.alloc _).aw hr2 (by simp),?_⟩;exact hw2
 have HI:=af hI;replace cR:=af cR;clear Xr hw2 hr2 hI HBx;obtain⟨wl,ov⟩:=ae (AU p);obtain⟨us,Xs⟩:=ae (AV p);obtain⟨ps,qX⟩:=ae (AW p);rw[ov]at wM gj;rw[Xs]at wR gj;rw[qX]at kF gj;clear ov Xs qX;clear aV;try simp only[PT]
 go_cut [4]from 9 to 36 (fun s4 wx=>s4=.bool wl/\Hid (Iw W p h wx))
 case first=>
  have gI:w2.cell? ⟨W.heap.size,10,none⟩=some (.bool p.hasWill):=HI.pk.cell 10;clear EU EP EC GU GP GC oh hpl;cases hw:p.hasWill with
  | false=>
   have tm:=HI.wl;have HE:=Ty.out;have HG:=Tz.out;rw[hw]at gI wM;have e:wl=fJ p.will:=by have:=wM.out;simpa using this
   obtain⟨ew,Xt⟩:=ae (fJ p.will);obtain⟨uv,AX⟩:=ae p.will.vals;have iw:(prog.info? 47).map (·.size)=some uv.size:=by rw[<-AX];exact(by kernel_rfl:(prog.info? 47).map (·.size)=some 4)
   rw[Xt]at e HE;rw[AX]at tm HE HG;obtain⟨sv,eQ⟩:=ae (Value.agg uv);rw[eQ]at HE HG;have eQ:=af eQ;replace iw:=af iw;have tok:=af trivial;subst e;clear AX Xt wM hw pq hbl;cases wl<;>
   ·go_wp2_with (clear tok;refine LG 47 rfl rfl tm underlying47 eQ.out ?_ iw.out)
    go_meet
    case rel=>exact⟨rfl,HI⟩
  | true=>
   have kt:w2.cell? ⟨W.heap.size+1,0,none⟩=some (.string ⟨p.will.topic.toArray⟩):=HI.wl.cell 0;rw[hw]at gI wM;have e:Hid (wl=(en p.will.topic&&decide (p.will.body.length<=2000)&&within p.will.qos 0 2)):=af (by have:=wM.out;simpa using this);clear wM hw;have Vd:=CN;obtain⟨nm,vZ⟩:=ae (en p.will.topic);rw[vZ]at e Vd;obtain⟨wq,QN⟩:=ae (within p.will.qos 0 2);rw[QN]at e CQ;clear vZ QN;obtain⟨n,hn⟩:=ae p.will.body.length;rw[hn]at e pq hbl;go_wp2_with fail
   refine(Vd.out _).mono ?_;rintro e' w3 ⟨rfl,hb3⟩;have nB:=af (HI.step hb3);have kb:w3.cell? ⟨W.heap.size+1,1,none⟩=some (.string ⟨p.will.body.toArray⟩):=nB.wl.cell 1;have kq:w3.cell? ⟨W.heap.size+1,2,none⟩=some (.int .i64 p.will.qos):=nB.wl.cell 2;obtain⟨bb,lN⟩:=ae ((⟨p.will.body.toArray⟩:ByteArray):ByteArray);rw[lN]at kb pq;clear hb3 lN gI kt;cases nm with
   |false=>
    obtain rfl:wl=false:=by have:=e.out;simpa using this
    go_wp2_with fail
    go_meet
    case rel=>exact⟨rfl,nB⟩
   | true=>
    by_cases h2:n<=2000
    ·have d:decide ((n:Int)<=2000)=true:=decide_eq_true (by omega);obtain rfl:wl=wq:=by have:=e.out;simpa[h2]using this
     go_wp2_with fail
     refine(CQ _).mono ?_;rintro e' w4 ⟨rfl,rfl⟩;go_wp2_with fail
     go_meet
     case rel=>exact⟨rfl,nB⟩
    have d:decide ((n:Int)<=2000)=false:=decide_eq_false (by omega);obtain rfl:wl=false:=by have:=e.out;simpa[h2]using this
    go_wp2_with fail
    go_meet
    case rel=>exact⟨rfl,nB⟩
 case rest=>
  obtain⟨rfl,QP⟩:=hcut;obtain⟨wa,sM⟩:=ae wc;rw[sM]at QP ⊢;clear sM HI pq hbl wM CN CQ Ty Tz;have Fz:wa.cell? ⟨W.heap.size,15,none⟩=some (.bool p.hasUser):=QP.out.pk.cell 15;have yC:wa.cell? ⟨W.heap.size,16,none⟩=some (.bool p.hasPass):=QP.out.pk.cell 16;have KX:wa.cell? ⟨W.heap.size,17,none⟩=some (.string ⟨p.user.toArray⟩):=QP.out.pk.cell 17;go_upto_region 3 with fail
  try simp only[PT]
  go_cut [5]from 37 to 58 (fun s5 wx=>s5=.bool us/\Hid (Iw W p h wx))
  case first=>
   clear EP EC GP GC oh hpl CC CW;obtain⟨uv,AX⟩:=ae (Value.string ⟨p.user.toArray⟩);obtain⟨ue,QQ⟩:=ae p.user.isEmpty;obtain⟨su,hsu⟩:=ae (gQ p.user 200);have EU:=EU.out;have GU:=GU.out;rw[AX]at KX CU EU GU;rw[QQ]at EU wR;rw[hsu]at CU wR;clear AX QQ hsu;cases hw:p.hasUser with
   | true=>
    rw[hw]at Fz wR;replace hw:=af hw;clear EU GU;have e:us=su:=by have:=wR.out;simpa using this
    subst e;clear wR;go_wp2_with fail;refine(CU _).mono ?_;rintro e' w3 ⟨rfl,hb3⟩;have nB:=af (QP.out.step hb3);have j15:w3.cell? ⟨W.heap.size,15,none⟩=some (.bool true):=by rw[<-hw.out];exact nB.pk.cell 15
    clear hb3;cases us<;>
    ·go_wp2_with fail
     go_meet
     case rel=>exact⟨rfl,nB⟩
   | false=>
    rw[hw]at Fz wR;have e:us=(ue&& !p.hasPass):=by have:=wR.out;simpa using this
    obtain⟨hp,JF⟩:=ae p.hasPass;rw[JF]at yC e;subst e;clear wR hw JF;cases ue with
    |false=>
     go_wp2_with fail
     go_meet
     case rel=>exact⟨rfl,QP⟩
    | true=>
     cases hp<;>
     ·go_wp2_with fail
      go_meet
      case rel=>exact⟨rfl,QP⟩
  case rest=>
   obtain⟨rfl,Ve⟩:=hcut;obtain⟨wb,ov⟩:=ae wc;rw[ov]at Ve ⊢;clear ov QP wR EU GU CU Fz yC KX;have yC:wb.cell? ⟨W.heap.size,16,none⟩=some (.bool p.hasPass):=Ve.out.pk.cell 16;have Jz:wb.cell? ⟨W.heap.size,18,none⟩=some (.string ⟨p.pass.toArray⟩):=Ve.out.pk.cell 18;go_upto_region 4 with fail
   try simp only[PT]
   go_cut [6]from 59 to 76 (fun s6 wx=>s6=.bool ps/\wb=wx)
   case first=>
    clear EC GC CC CW;cases hw:p.hasPass with
    | true=>
     rw[hw]at yC kF;clear hw EP GP;obtain⟨bb,lN⟩:=ae ((⟨p.pass.toArray⟩:ByteArray):ByteArray);obtain⟨n,hn⟩:=ae p.pass.length;rw[lN]at Jz oh;rw[hn]at oh hpl kF;clear lN hn;by_cases h2:n<=200
     ·have d:decide ((n:Int)<=200)=true:=decide_eq_true (by omega);obtain rfl:ps=true:=by have:=kF.out;simpa[h2]using this
      clear kF;go_wp2_with fail;go_meet
      case rel=>exact⟨rfl,rfl⟩
     have d:decide ((n:Int)<=200)=false:=decide_eq_false (by omega);obtain rfl:ps=false:=by have:=kF.out;simpa[h2]using this
     clear kF;go_wp2_with fail;go_meet
     case rel=>exact⟨rfl,rfl⟩
    | false=>
     rw[hw]at yC kF;obtain⟨uv,AX⟩:=ae (Value.string ⟨p.pass.toArray⟩);obtain⟨ue,QQ⟩:=ae p.pass.isEmpty;have EP:=EP.out;have GP:=GP.out;rw[AX]at Jz EP GP;rw[QQ]at EP kF;obtain rfl:ps=ue:=by have:=kF.out;simpa using this
     clear AX QQ kF hw oh hpl;cases ps<;>
     ·go_wp2_with fail
      go_meet
      case rel=>exact⟨rfl,rfl⟩
   case rest=>
    obtain⟨rfl,rfl⟩:=hcut;clear kF EP GP oh hpl yC Jz;go_upto_region 5 with fail;try simp only[PT]
    have k7:wb.cell? ⟨W.heap.size,7,none⟩=some (.string ⟨p.client.toArray⟩):=Ve.out.pk.cell 7;obtain⟨uv,AX⟩:=ae (Value.string ⟨p.client.toArray⟩);obtain⟨ce,hce⟩:=ae p.client.isEmpty;obtain⟨sc,hsc⟩:=ae (gQ p.client 23);obtain⟨wk,hwk⟩:=ae (within p.keep 0 65535);have EC:=EC.out;have GC:=GC.out;have ab4:=af AX;rw[AX]at k7 CC EC GC;rw[hce]at EC gj;rw[hsc]at CC gj;rw[hwk]at CW gj;clear AX hce hsc hwk;go_wp2_with fail;refine(CC _).mono ?_;rintro e' w3 ⟨rfl,hb3⟩;have nB:=af (Ve.out.step hb3);have j8:w3.cell? ⟨W.heap.size,8,none⟩=some (.bool p.clean):=nB.pk.cell 8;have j7:w3.cell? ⟨W.heap.size,7,none⟩=some uv:=by rw[<-ab4.out];exact nB.pk.cell 7
    have j9:w3.cell? ⟨W.heap.size,9,none⟩=some (.int .i64 p.keep):=nB.pk.cell 9;obtain⟨cl,jy⟩:=ae p.clean;rw[jy]at j8 gj;clear hb3 jy Ve k7;cases sc with
    |false=>
     go_wp2_with fail
     go_ret;exact⟨by rw[gj.out];simp,nB.ag⟩
    | true=>
     cases cl with
     | true=>
      go_wp2_with fail
      refine(CW _).mono ?_;rintro e' w4 ⟨rfl,rfl⟩;cases wk<;>cases wl<;>cases us<;>
      ·go_wp2_with fail
       go_ret;exact⟨by rw[gj.out];simp,nB.ag⟩
     | false=>
      cases ce with
      |true=>
       go_wp2_with fail
       go_ret;exact⟨by rw[gj.out];simp,nB.ag⟩
      | false=>
       go_wp2_with fail
       refine(CW _).mono ?_;rintro e' w4 ⟨rfl,rfl⟩;cases wk<;>cases wl<;>cases us<;>
       ·go_wp2_with fail
        go_ret;exact⟨by rw[gj.out];simp,nB.ag⟩
end
theorem js{l s r:List UInt8}(h:bC l=some (s,r)):s.length<=2000000:=by have:=(cg h).2;omega
theorem nC{α:Type}{take:List UInt8->Option (α×List UInt8)}{P:α->Prop}(h:∀l x r,take l=some (x,r)->P x):∀(n:Nat)(l:List UInt8)(xs:List α),cx take n l=some xs->∀x∈xs,P x
 |0,l,xs,e=>by
  unfold cx at e;split at e
  ·cases e;simp
  cases e
 | n+1,l,xs,e=>by
  unfold cx at e;split at e
  ·cases e;simp
  obtain⟨x,h1,e⟩:=Option.bind_eq_some_iff.1 e;obtain⟨r,h2,e⟩:=Option.bind_eq_some_iff.1 e;cases e;intro y hy;rcases List.mem_cons.1 hy with rfl | hy
  ·exact h l x.1 x.2 h1
  exact nC h n x.2 r h2 y hy
theorem AY{b:Bool}{l s r:List UInt8}(h:dm b [] bC l=some (s,r)):s.length<=2000000:=by
 unfold dm at h;cases b with
 | true=>exact js h
 | false=>cases h;simp
theorem LH{b:Bool}{l:List UInt8}{s:List UInt8×List UInt8}{r:List UInt8}(h:dm b ([],[]) oq l=some (s,r)):s.1.length<=2000000/\s.2.length<=2000000:=by
 unfold dm at h;cases b with
 |true=>unfold oq at h;simp only[if_true]at h;obtain⟨x,h1,h⟩:=Option.bind_eq_some_iff.1 h;obtain⟨y,h2,h⟩:=Option.bind_eq_some_iff.1 h;cases h;exact⟨js h1,js h2⟩
 | false=>cases h;simp
theorem yT.zero(k:Int):yT (aN k):=⟨by simp[aN],by simp[aN],by simp[aN],by simp[aN,dx],by simp[aN,dx],by simp[aN],by simp[aN],by simp[aN],by simp[aN]⟩
theorem A0{l r:List UInt8}{p:Pk}(h:oK l=some (p,r)):yT p:=by
 unfold oK at h;obtain⟨a,ha,h⟩:=Option.bind_eq_some_iff.1 h;split at h
 ·cases h
 obtain⟨v,hv,h⟩:=Option.bind_eq_some_iff.1 h;split at h
 ·cases h
 obtain⟨f,hf,h⟩:=Option.bind_eq_some_iff.1 h;obtain⟨k,hk,h⟩:=Option.bind_eq_some_iff.1 h;obtain⟨c,hc,h⟩:=Option.bind_eq_some_iff.1 h;obtain⟨wl,hw,h⟩:=Option.bind_eq_some_iff.1 h;obtain⟨u,hu,h⟩:=Option.bind_eq_some_iff.1 h;obtain⟨s,hs,h⟩:=Option.bind_eq_some_iff.1 h;dsimp only at h;split at h
 ·cases h;have h2:=LH (s:=wl.1) (r:=wl.2) hw;exact⟨by simp[aN],by simp[aN],js (s:=c.1) (r:=c.2) hc,h2.1,h2.2,AY (s:=u.1) (r:=u.2) hu,AY (s:=s.1) (r:=s.2) hs,by simp[aN],by simp[aN]⟩
 cases h
theorem kG{k:Int}{f:Nat}{l r:List UInt8}{p:Pk}(h:cj k f l=some (p,r))(hl:l.length<=65536):yT p/\(k=3->0<=p.qos/\p.qos<=3):=by
 unfold cj at h;split at h
 ·exact⟨A0 h,fun e=>by omega⟩
 split at h
 ·unfold qw at h;obtain⟨a,ha,h⟩:=Option.bind_eq_some_iff.1 h;split at h
  ·cases h
  obtain⟨c,hc,h⟩:=Option.bind_eq_some_iff.1 h;cases h;exact⟨⟨by simp[aN],by simp[aN],by simp[aN],by simp[aN,dx],by simp[aN,dx],by simp[aN],by simp[aN],by simp[aN],by simp[aN]⟩,fun e=>by omega⟩
 split at h
 ·unfold jm at h;obtain⟨t,ht,h⟩:=Option.bind_eq_some_iff.1 h;obtain⟨i,hi,h⟩:=Option.bind_eq_some_iff.1 h;cases h;have h1:=(cg (s:=t.1) (r:=t.2) ht).1;have h2:t.2.length<=l.length:=by rw[h1,List.length_append];omega
  have h3:i.2.length<=t.2.length:=by
   unfold dm at hi;split at hi
   ·have:=(bN (n:=i.1) (r:=i.2) hi).1;rw[this,List.length_append];omega
   cases hi;simp
  exact⟨⟨js (s:=t.1) (r:=t.2) ht,by show i.2.length<=_;omega,by simp[aN],by simp[aN,dx],by simp[aN,dx],by simp[aN],by simp[aN],by simp[aN],by simp[aN]⟩,fun _=>by dsimp only;omega⟩
 split at h
 ·unfold l5 at h;obtain⟨i,hi,h⟩:=Option.bind_eq_some_iff.1 h;obtain⟨w,hw,h⟩:=Option.bind_eq_some_iff.1 h;cases h;have:=nC (P:=fun x:bM=>x.filter.length<=2000000) (fun l x r h=>by unfold dB at h;obtain⟨t,ht,h⟩:=Option.bind_eq_some_iff.1 h;obtain⟨q,hq,h⟩:=Option.bind_eq_some_iff.1 h;cases h;exact js (s:=t.1) (r:=t.2) ht) _ _ _ hw
  exact⟨⟨by simp[aN],by simp[aN],by simp[aN],by simp[aN,dx],by simp[aN,dx],by simp[aN],by simp[aN],this,by simp[aN]⟩,fun e=>by omega⟩
 split at h
 ·unfold l6 at h;obtain⟨i,hi,h⟩:=Option.bind_eq_some_iff.1 h;obtain⟨w,hw,h⟩:=Option.bind_eq_some_iff.1 h;cases h;exact⟨⟨by simp[aN],by simp[aN],by simp[aN],by simp[aN,dx],by simp[aN,dx],by simp[aN],by simp[aN],by simp[aN],by simp[aN]⟩,fun e=>by omega⟩
 split at h
 ·unfold l7 at h;obtain⟨i,hi,h⟩:=Option.bind_eq_some_iff.1 h;obtain⟨w,hw,h⟩:=Option.bind_eq_some_iff.1 h;cases h;have:=nC (P:=fun x:List UInt8=>x.length<=2000000) (fun l x r h=>js h) _ _ _ hw;exact⟨⟨by simp[aN],by simp[aN],by simp[aN],by simp[aN,dx],by simp[aN,dx],by simp[aN],by simp[aN],by simp[aN],this⟩,fun e=>by omega⟩
 split at h
 ·unfold m7 at h;obtain⟨i,hi,h⟩:=Option.bind_eq_some_iff.1 h;cases h;exact⟨⟨by simp[aN],by simp[aN],by simp[aN],by simp[aN,dx],by simp[aN,dx],by simp[aN],by simp[aN],by simp[aN],by simp[aN]⟩,fun e=>by omega⟩
 cases h;exact⟨yT.zero k,fun e=>by omega⟩
theorem Iz(f:Nat)(hf:f<256):bits .and .u8 ((f:Nat):Int) 15=((f%16:Nat):Int):=by
 have:∀f:Fin 256,bits .and .u8 ((f:Nat):Int) 15=((f.1%16:Nat):Int):=by decide+kernel
 exact this ⟨f,hf⟩
end Go.Proofs.YtkghejaimhoboaaGreatDoor
