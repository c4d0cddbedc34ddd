/- Parts of the proof of ScriptTurns. -/
import Derived.Test.YtkghejaimhoboaaGreatDoorPk23
import Derived.Test.YtkghejaimhoboaaGreatDoorPk25
import Derived.Test.YtkghejaimhoboaaGreatDoorPk22
set_option linter.unusedSimpArgs false
set_option linter.unusedVariables false
set_option maxRecDepth 100000
set_option maxHeartbeats 8000000
namespace Go.Proofs.YtkghejaimhoboaaGreatDoor
open Go.RowKit Go.Shelf Go.Proofs.Tryz
theorem fK{p:Pk}(h:aZ p):yT p:=by
 obtain⟨hm,ha⟩:=h;unfold bV at hm;unfold aQ at ha;by_cases k1:p.kind=1
 ·rw[if_pos k1]at hm ha;obtain⟨a1,a2,a3,a4,a5⟩:=iG hm;have h1:=dU a1;have t1:p.will.topic.length<=2000000:=by
   rcases a3 with⟨-,e⟩ | ⟨-,e, -⟩
   ·rw[e];decide
   have:=ez e;omega
  have t2:p.will.body.length<=2000000:=by
   rcases a3 with⟨-,e⟩ | ⟨-, -,e, -⟩
   ·rw[e];decide
   omega
  have t3:p.user.length<=2000000:=by
   rcases a4 with⟨-,e⟩ | ⟨-,e⟩
   ·have:=dU e;omega
   rw[e];decide
  have t4:p.pass.length<=2000000:=by
   rcases a5 with⟨-,e⟩ | ⟨-,e⟩
   ·omega
   rw[e];decide
  have e1:p.topic=[]:=(congrArg Pk.topic ha).symm;have e2:p.body=[]:=(congrArg Pk.body ha).symm;have e3:p.wants=[]:=(congrArg Pk.wants ha).symm;have e4:p.filters=[]:=(congrArg Pk.filters ha).symm;exact⟨by rw[e1];simp,by rw[e2];simp,by omega,t1,t2,t3,t4,by rw[e3];simp,by rw[e4];simp⟩
 rw[if_neg k1]at hm ha;have z:∀q:Pk,q=p->q.client=[]->q.will=dx->q.user=[]->q.pass=[]->p.client.length<=2000000/\p.will.topic.length<=2000000/\p.will.body.length<=2000000/\p.user.length<=2000000/\p.pass.length<=2000000:=by rintro q rfl a b c d;rw[a,b,c,d];decide
 have y:∀q:Pk,q=p->q.topic=[]->q.body=[]->p.topic.length<=2000000/\p.body.length<=2000000:=by rintro q rfl a b;rw[a,b];decide
 have x:∀q:Pk,q=p->q.wants=[]->∀x∈p.wants,x.filter.length<=2000000:=by rintro q rfl a;rw[a];simp
 have v:∀q:Pk,q=p->q.filters=[]->∀x∈p.filters,x.length<=2000000:=by rintro q rfl a;rw[a];simp
 by_cases k2:p.kind=2
 ·rw[if_pos k2]at ha;obtain⟨b1,b2,b3,b4,b5⟩:=z _ ha rfl rfl rfl rfl;obtain⟨c1,c2⟩:=y _ ha rfl rfl;exact⟨c1,c2,b1,b2,b3,b4,b5,x _ ha rfl,v _ ha rfl⟩
 rw[if_neg k2]at hm ha;by_cases k3:p.kind=3
 ·rw[if_pos k3]at hm ha;obtain⟨b1,b2,b3,b4,b5⟩:=z _ ha rfl rfl rfl rfl;unfold fy at hm;rw[Bool.and_eq_true,Bool.and_eq_true,Bool.and_eq_true]at hm;have:=ez hm.1.1.1;have:=of_decide_eq_true hm.1.1.2;exact⟨by omega,by omega,b1,b2,b3,b4,b5,x _ ha rfl,v _ ha rfl⟩
 rw[if_neg k3]at hm ha;by_cases k8:p.kind=8
 ·rw[if_pos k8]at hm ha;obtain⟨b1,b2,b3,b4,b5⟩:=z _ ha rfl rfl rfl rfl;obtain⟨c1,c2⟩:=y _ ha rfl rfl;rw[Bool.and_eq_true]at hm;refine⟨c1,c2,b1,b2,b3,b4,b5,fun t ht=>?_,v _ ha rfl⟩;have h2:=fA hm.2 t ht;unfold cI at h2;rw[Bool.and_eq_true]at h2;have:=gA h2.1;omega
 rw[if_neg k8]at hm ha;by_cases k9:p.kind=9
 ·rw[if_pos k9]at ha;obtain⟨b1,b2,b3,b4,b5⟩:=z _ ha rfl rfl rfl rfl;obtain⟨c1,c2⟩:=y _ ha rfl rfl;exact⟨c1,c2,b1,b2,b3,b4,b5,x _ ha rfl,v _ ha rfl⟩
 rw[if_neg k9]at hm ha;by_cases gI:p.kind=10
 ·rw[if_pos gI]at hm ha;obtain⟨b1,b2,b3,b4,b5⟩:=z _ ha rfl rfl rfl rfl;obtain⟨c1,c2⟩:=y _ ha rfl rfl;rw[Bool.and_eq_true]at hm;refine⟨c1,c2,b1,b2,b3,b4,b5,x _ ha rfl,fun t ht=>?_⟩;have:=gA (fA hm.2 t ht);omega
 rw[if_neg gI]at ha;split at ha
 all_goals
  obtain⟨b1,b2,b3,b4,b5⟩:=z _ ha rfl rfl rfl rfl;obtain⟨c1,c2⟩:=y _ ha rfl rfl;exact⟨c1,c2,b1,b2,b3,b4,b5,x _ ha rfl,v _ ha rfl⟩
theorem D6{t:Tn}:eh t↔(1<=t.kind/\t.kind<=8)/\cZ t=t/\(0<=t.conn/\t.conn<=65535)/\t.bytes.length<=10000/\t.bf.length<=255/\(0<=t.arm/\t.arm<=2)/\(-1<=t.n/\t.n<=65534)/\(∀z∈t.bf,0<=z/\z<=255)/\(t.kind=2->aZ t.pk):=by
 constructor
 ·intro h;have hk:=iT h;have hc:=nd h;obtain⟨hm,ha⟩:=h;refine⟨hk,ha,hc,?_⟩;unfold mf at hm;unfold cZ at ha;by_cases k2:t.kind=2
  ·rw[if_pos k2]at hm ha;have e1:t.bytes=[]:=(congrArg Tn.bytes ha).symm;have e2:t.bf=[]:=(congrArg Tn.bf ha).symm;have e3:t.arm=0:=(congrArg Tn.arm ha).symm;have e4:t.n=0:=(congrArg Tn.n ha).symm;rw[e1,e2,e3,e4];exact⟨by simp,by simp,by decide,by decide,by simp,fun _=>hm.2⟩
  rw[if_neg k2]at hm ha;by_cases k3:t.kind=3
  ·rw[if_pos k3]at hm ha;have e2:t.bf=[]:=(congrArg Tn.bf ha).symm;have e3:t.arm=0:=(congrArg Tn.arm ha).symm;have e4:t.n=0:=(congrArg Tn.n ha).symm;rw[e2,e3,e4];exact⟨hm.2,by simp,by decide,by decide,by simp,fun e=>absurd e k2⟩
  rw[if_neg k3]at hm ha;by_cases k7:t.kind=7
  ·rw[if_pos k7]at hm ha;have e1:t.bytes=[]:=(congrArg Tn.bytes ha).symm;have e2:t.bf=[]:=(congrArg Tn.bf ha).symm;rw[e1,e2];exact⟨by simp,by simp,hm.1,by omega,by simp,fun e=>absurd e k2⟩
  rw[if_neg k7]at hm ha;by_cases k8:t.kind=8
  ·rw[if_pos k8]at hm ha;have e1:t.bytes=[]:=(congrArg Tn.bytes ha).symm;have e3:t.arm=0:=(congrArg Tn.arm ha).symm;have e4:t.n=0:=(congrArg Tn.n ha).symm;rw[e1,e3,e4];exact⟨by simp,hm.1,by decide,by decide,hm.2,fun e=>absurd e k2⟩
  rw[if_neg k8]at hm ha;have e:t.bytes=[]/\t.bf=[]/\t.arm=0/\t.n=0:=by
   split at ha
   ·exact⟨(congrArg Tn.bytes ha).symm,(congrArg Tn.bf ha).symm,(congrArg Tn.arm ha).symm,(congrArg Tn.n ha).symm⟩
   exact⟨(congrArg Tn.bytes ha).symm,(congrArg Tn.bf ha).symm,(congrArg Tn.arm ha).symm,(congrArg Tn.n ha).symm⟩
  obtain⟨e1,e2,e3,e4⟩:=e;rw[e1,e2,e3,e4];exact⟨by simp,by simp,by decide,by decide,by simp,fun e=>absurd e k2⟩
 rintro⟨hk,ha,hc,hb,hp,har,hn,hz,hr⟩;refine⟨?_,ha⟩;unfold mf;by_cases k2:t.kind=2
 ·rw[if_pos k2];exact⟨hc,hr k2⟩
 rw[if_neg k2];by_cases k3:t.kind=3
 ·rw[if_pos k3];exact⟨hc,hb⟩
 rw[if_neg k3];by_cases k7:t.kind=7
 ·rw[if_pos k7];exact⟨har,by omega⟩
 rw[if_neg k7];by_cases k8:t.kind=8
 ·rw[if_pos k8];exact⟨hp,hz⟩
 rw[if_neg k8];exact⟨by omega,hc⟩
theorem LI{u:Bool}{l r:List UInt8}{t:Tn}(h:cw fR u l=some (t,r))(hk:t.kind=2):aZ t.pk:=by
 unfold cw at h;obtain⟨k,h1,h⟩:=Option.bind_eq_some_iff.1 h;obtain⟨c,h2,h⟩:=Option.bind_eq_some_iff.1 h;have oH:∀(c:Int),({ig (k.1:Int)with conn:=c}:Tn).kind=(k.1:Int):=fun _=>rfl;by_cases k2:(k.1:Int)=2
 ·rw[mg ((oH _).trans k2)]at h;obtain⟨s,h3,h⟩:=Option.bind_eq_some_iff.1 h;obtain⟨p,h4,h⟩:=Option.bind_eq_some_iff.1 h;cases h;exact((fR.iff _ _).1 h4).1
 exfalso;have e:t.kind=(k.1:Int):=by
  unfold fB at h;rw[if_neg (by exact k2)]at h;split at h
  ·obtain⟨s,h3,h⟩:=Option.bind_eq_some_iff.1 h;cases h;rfl
  split at h
  ·obtain⟨s,h3,h⟩:=Option.bind_eq_some_iff.1 h;obtain⟨s2,h4,h⟩:=Option.bind_eq_some_iff.1 h;cases h;rfl
  split at h
  ·obtain⟨s,h3,h⟩:=Option.bind_eq_some_iff.1 h;obtain⟨s2,h4,h⟩:=Option.bind_eq_some_iff.1 h;cases h;rfl
  split at h
  ·cases h;rfl
  cases h
 omega
theorem pL{u:Bool}{l:List UInt8}{s:Sc}(h:bh fR u l=some s):∀t∈s.ts,t.kind=2->aZ t.pk:=by
 unfold bh at h;obtain⟨x,h1,h⟩:=Option.bind_eq_some_iff.1 h;obtain⟨y,h2,h⟩:=Option.bind_eq_some_iff.1 h;obtain⟨ts,h3,h⟩:=Option.bind_eq_some_iff.1 h;split at h
 ·cases h;exact nC (P:=fun t:Tn=>t.kind=2->aZ t.pk) (fun l x r h=>LI h) _ _ _ h3
 cases h
theorem nD{l:List UInt8}{s:Sc}(u v:Bool)(h:bh fR u l=some s)(hr:bZ s):bh fR v l=some s:=((vg fR (u:=v)).2 ((vg fR).1 ⟨h,hr⟩)).1
section
attribute [local go_sem] Oper.semAt_some
theorem vx.zero(w:World)(t:Tn)(h:t.pk.wants=[]/\t.pk.codes=[]/\t.pk.filters=[]/\t.bf=[])(M:List Nat):vx w ⟨t,bo,bQ⟩ M:=by
 obtain⟨a,b,c,d⟩:=h;refine⟨?_,?_,?_,?_⟩
 ·dsimp only;rw[a];exact eN.nil w M
 ·dsimp only;rw[b];exact eN.nil w M
 ·dsimp only;rw[c];exact eN.nil w M
 dsimp only;rw[d];exact eN.nil w M
theorem jt(C:bT)(k:Int)(hk:k=1\/k=4\/k=5\/k=6)(W:World)(B p tb:Nat)(l:List UInt8)(cn:Int)(hR:Rd W B p l)(hb:ar W tb ((dS k cn).cells bo bQ).toArray 55):
  Calls prog 48 #[.agg #[.pointer (some ⟨p,0,none⟩)],.pointer (some ⟨tb,0,none⟩)] W (oL C B p tb (dS k cn) l W):=
 (KT _ _ W).mono fun e w' ⟨he,hbl⟩=>⟨ak.aK hbl,.inr ⟨⟨dS k cn,bo,bQ⟩,l,Fo hk l,he,hR.ag hbl,hb.ag hbl,fun M _=>vx.zero w' _ ⟨rfl,rfl,rfl,rfl⟩ M⟩⟩
theorem ID(C:bT)(W:World)(B p tb:Nat)(l:List UInt8)(cn:Int)(hR:Rd W B p l)(hb:ar W tb ((dS 3 cn).cells bo bQ).toArray 55)(hB:B<=tb):
  Calls prog 61 #[.agg #[.pointer (some ⟨p,0,none⟩)],.pointer (some ⟨tb,0,none⟩)] W (oL C B p tb (dS 3 cn) l W):=by
 have b0:Below W.heap.size W (W.alloc (.cells #[.pointer (some ⟨p,0,none⟩)] 61)):=ai.alloc ah _;have CX:=af (qB (hR.ag b0));have hb1:=hb.ag b0;have W0:ak [p,tb] W (W.alloc (.cells #[.pointer (some ⟨p,0,none⟩)] 61)):=ak.aK b0;have kF:=hR.lt;have sB:=af hb.lt;have gH:=af hb1;have W0:=af W0;clear hb hb1 b0 hR;go_enter func61,ntmps61;go_wp2_with fail
 refine CX.mono ?_;rintro e w1 (⟨hno,rfl,bL⟩ | ⟨⟨s,r⟩,hx,rfl,jP,bL⟩)
 ·refine⟨rfl,W0.trans (bL.sub (by simp)),.inl ⟨?_,rfl⟩⟩;rw[qC (t:=dS 3 cn) rfl,hno];rfl
 have Xx:=gH.aw bL (by simp;omega);dsimp only at jP ⊢;have Qs:=af jP;have Ca:=af (W0.trans (bL.sub (by simp)));have hx:=af hx;clear bL jP;obtain⟨tc,pT⟩:=ae (((dS 3 cn).cells bo bQ).toArray);have Dm:Hid (tc.size=30):=af (by rw[<-pT];rfl);have LP:Hid (tc.setIfInBounds 26 (.string ⟨s.toArray⟩)=(({dS 3 cn with bytes:=s}:Tn).cells bo bQ).toArray):=af (by rw[<-pT];rfl);rw[pT]at Xx;clear pT;go_wp2_with (refine aq rfl 9 55 _ _ rfl (fun w=>by kernel_rfl) tb 26 tc (.string ⟨s.toArray⟩) rfl rfl Xx (by rw[Dm];decide) rfl rfl ?_;intro w2 hw2 hr2);rw[LP]at hw2;have H:oL C B p tb (dS 3 cn) l W (.returned (.tuple #[])) w2:=⟨Ca.trans (hr2.sub (by simp)),.inr ⟨⟨{dS 3 cn with bytes:=s},bo,bQ⟩,r,by(rw[qC (t:=dS 3 cn) rfl,hx.out];rfl),rfl,Qs.wrote hr2 (by simp;exact hB),hw2,fun M _=>vx.zero w2 _ ⟨rfl,rfl,rfl,rfl⟩ M⟩⟩
 go_end0
 exact H
theorem vC(xs:List Int):yK xs=xs.flatMap jD:=by
 unfold yK jD;induction xs with
 | nil=>rfl
 | cons z zs ih=>rw[List.map_cons,List.flatMap_cons,ih];rfl
theorem tT{α:Type}{f:α->List Value}{size:Nat}(hf:∀x,(f x).length=size){w:World}{base c:Nat}{e:TypeId}{a:Option Addr}{n:Nat}{xs:List α}(h:w.ownsRow base e size (.slice a n c) n (xs.flatMap f))(hl:xs.length=n){M:List Nat}(hM:∀b∈M,b<base):eN f size w ⟨a,n,c⟩ xs M:=
 ⟨cX hf h hl,fun hne y hy hm=>by have h1:=hM _ hm;have h2:=(h.lt y.block (by dsimp only at hy;rw[hy];rfl)).1;omega⟩
theorem iL{α:Type}(take:List UInt8->Option (α×List UInt8)):∀(n:Nat)(l r:List UInt8)(xs:List α),bJ take n l=some (xs,r)->xs.length=n
 | 0,l,r,xs,h=>by cases h;rfl
 | n+1,l,r,xs,h=>by
  unfold bJ at h;cases h1:take l with
  | none=>rw[h1]at h;cases h
  | some x=>
   rw[h1,Option.bind_some]at h;cases h2:bJ take n x.2 with
   | none=>rw[h2]at h;cases h
   |some y=>rw[h2,Option.bind_some]at h;cases h;rw[List.length_cons,iL take n x.2 y.2 y.1 h2]
theorem LQ(W:World)(B p rb:Nat)(l:List UInt8)(hR:Rd W B p l)(hb:ar W rb #[.pointer (some ⟨p,0,none⟩)] 61):Calls prog 73 #[.pointer (some ⟨rb,0,none⟩)] W (Lp 1 B p l W):=by
 have CN:=af (eT hR 1 (by decide) (by decide));go_enter func73,ntmps73;go_wp2_with (refine wL 61 rfl rfl hb underlying61 ?_)
 refine CN.mono ?_;rintro e w1 (⟨hx,rfl,bL⟩ | ⟨x,hx,rfl,jP,bL⟩)
 ·exact⟨rfl,.inl ⟨hx,rfl,bL⟩⟩
 have H:=af (show Lp 1 B p l W (.returned (.int .i64 x.1)) w1 from .inr ⟨x,hx,rfl,jP,bL⟩);clear hx jP bL;go_wp2_with fail;go_ret;exact H.out
theorem IE(C:bT)(W:World)(B p tb:Nat)(l:List UInt8)(cn:Int)(hR:Rd W B p l)(hb:ar W tb ((dS 8 cn).cells bo bQ).toArray 55)(hB:B<=tb):
  Calls prog 72 #[.agg #[.pointer (some ⟨p,0,none⟩)],.pointer (some ⟨tb,0,none⟩)] W (oL C B p tb (dS 8 cn) l W):=by
 have wA:∀(fn:Fn)(first cap:Array Value)(w:World),(Instr.makeFunc fn first cap).run prog w=.ok (.func fn first cap) w:=fun _ _ _ _=>rfl;obtain⟨W0,hW0⟩:=ae (W.alloc (.cells #[.pointer (some ⟨p,0,none⟩)] 61));have b0:Below W.heap.size W W0:=by rw[<-hW0];exact ai.alloc ah _
 have hx0:ar W0 W.heap.size #[.pointer (some ⟨p,0,none⟩)] 61:=by rw[<-hW0];exact ar.new _ _ _
 have CX:=af (eT (hR.ag b0) 1 (by decide) (by decide));have gH:=af (hb.ag b0);have K0:Hid (ak [p,tb] W W0):=af (ak.aK b0);have kF:=hR.lt;have mF:=hR.base;have sB:=af hb.lt;have hf:=enters_of func73 (by kernel_rfl) rfl;have s0:=b0.size;clear hb b0 hR;go_enter func72,ntmps72;go_wp2_with (refine wL 61 rfl rfl hx0 underlying61 ?_)
 refine CX.mono ?_;rintro e w1 (⟨hno,rfl,bL⟩ | ⟨⟨m,r⟩,hx,rfl,jP,bL⟩)
 ·refine⟨rfl,K0.trans (bL.sub (by simp)),.inl ⟨?_,rfl⟩⟩;rw[nW (t:=dS 8 cn) rfl,hno];rfl
 have Xx:=gH.aw bL (by simp;omega);have hx1:=hx0.aw bL (by simp;omega);have hm:m<256:=by have:=(bN hx).2;simpa using this
 dsimp only at jP ⊢;have CT:=af (AG 73 #[.pointer (some ⟨W.heap.size,0,none⟩)] 1 m B p W.heap.size r w1 hf jP hx1 (by omega) hx1.lt (by omega) (fun W1 l1 h1 h2=>LQ W1 B p W.heap.size l1 h1 h2));have K1:=af (K0.trans (bL.sub (by simp)));have hx:=af hx;have s1:=af bL.size;have UW:=af Xx;clear bL jP Xx hm;go_wp2_with fail;refine CT.mono ?_;rintro e w2 ⟨hw2,hx2⟩;have K2:=af (K1.trans (hw2.sub (by simp)));rcases hx2 with⟨hno,rfl⟩ | ⟨xs,l2,v,Fa,rfl,mC,tG⟩
 ·refine⟨rfl,K2.out,.inl ⟨?_,rfl⟩⟩;rw[nW (t:=dS 8 cn) rfl,hx.out,Option.bind_some];dsimp only;rw[show bJ cm m r=none from hno];rfl
 obtain⟨av,cv,rfl⟩:=aA tG;have hlen:=iL _ _ _ _ _ Fa;have ZU:=UW.aw hw2 (by simp;omega);rw[vC]at tG;have HO:=af tG;have HM:=af Fa;have DA:=af mC;have HL:=af hlen;clear hw2 tG Fa mC hlen;obtain⟨tc,pT⟩:=ae (((dS 8 cn).cells bo bQ).toArray);have Dm:Hid (tc.size=30):=af (by rw[<-pT];rfl);have LP:Hid (tc.setIfInBounds 29 (.slice av m cv)=(({dS 8 cn with bf:=xs}:Tn).cells bo ⟨av,m,cv⟩).toArray):=af (by rw[<-pT];rfl);rw[pT]at ZU;clear pT;go_wp2_with (refine aq rfl 49 55 _ _ rfl (fun w=>by kernel_rfl) tb 29 tc (.slice av m cv) rfl rfl ZU (by rw[Dm];decide) rfl rfl ?_;intro w3 hw3 hr3);rw[LP]at hw3;have H:oL C B p tb (dS 8 cn) l W (.returned (.tuple #[])) w3:=⟨K2.trans (hr3.sub (by simp)),.inr ⟨⟨{dS 8 cn with bf:=xs},bo,⟨av,m,cv⟩⟩,l2,by rw[nW (t:=dS 8 cn) rfl,hx.out,Option.bind_some];dsimp only;rw[show bJ cm m r=some (xs,l2)from HM.out];rfl,rfl,DA.wrote hr3 (by simp;exact hB),hw3,fun M hM=>?_⟩⟩
 ·go_end0
  exact H
 have TF:eN jD 1 w3 ⟨av,m,cv⟩ xs M:=by
  refine tT (f:=jD) (size:=1) (fun x=>rfl) (fW HO.out hr3 (fun y hy hm=>?_)) HL.out (fun b hb=>?_)
  ·have:=(HO.lt y (bA.1 hm)).1;have:=s1.out;have:=sB.out;simp at hy;omega
  have:=hM b hb;have:=s1.out;omega
 exact⟨eN.nil w3 M,eN.nil w3 M,eN.nil w3 M,TF⟩
theorem IG(C:bT)(W:World)(B p tb:Nat)(l:List UInt8)(cn:Int)(hR:Rd W B p l)(hb:ar W tb ((dS 7 cn).cells bo bQ).toArray 55)(hB:B<=tb):
  Calls prog 66 #[.agg #[.pointer (some ⟨p,0,none⟩)],.pointer (some ⟨tb,0,none⟩)] W (oL C B p tb (dS 7 cn) l W):=by
 obtain⟨W0,hW0⟩:=ae (W.alloc (.cells #[.pointer (some ⟨p,0,none⟩)] 61));have b0:Below W.heap.size W W0:=by rw[<-hW0];exact ai.alloc ah _
 have hx0:ar W0 W.heap.size #[.pointer (some ⟨p,0,none⟩)] 61:=by rw[<-hW0];exact ar.new _ _ _
 have R0:=hR.ag b0;have T0:=hb.ag b0;have K0:ak [p,tb] W W0:=ak.aK b0;have kF:=hR.lt;have mF:=hR.base;have sB:=hb.lt;clear hb hR;go_enter func66,ntmps66;go_upto_region 1 with fail
 have xD:ar W0.drew W.heap.size #[.pointer (some ⟨p,0,none⟩)] 61:=hx0;have tD:ar W0.drew tb ((dS 7 cn).cells bo bQ).toArray 55:=T0;have RD:Rd W0.drew B p l:=R0.ag ((Below.refl _ W0).drew);have KD:ak [p,tb] W W0.drew:=K0.trans (ak.aK ((Below.refl _ W0).drew));refine lS [(1000,fun w'=>ar w' W.heap.size #[.pointer (some ⟨p,0,none⟩)] 61)] ?_ (by kernel_rfl) ⟨xD,trivial⟩ fun KQ aL=>?_
 ·intro c a d v w h;cases d<;>exact h
 try simp only[PT]
 obtain⟨WD,di⟩:=ae W0.drew;rw[di]at xD tD RD KD ⊢;refine tQ [0,1] ?_;refine aG 2 rfl (by kernel_rfl) (by kernel_rfl) rfl rfl 0 rfl (by kernel_rfl) (.agg #[.pointer (some ⟨p,0,none⟩)]) (fun w' hf=>by(exact aM hf 61 underlying61 rfl (by kernel_rfl))) ?_;simp only[PT];refine aG 4 rfl (by kernel_rfl) (by kernel_rfl) rfl rfl 0 rfl (by kernel_rfl) (.agg #[.pointer (some ⟨p,0,none⟩)]) (fun w' hf=>by(exact aM hf 61 underlying61 rfl (by kernel_rfl))) ?_;simp only[PT];refine sQ 3 fun K hK=>?_;simp only[GO];go_simp;refine(eT RD 1 (by decide) (by decide)).mono ?_;rintro e w1 (⟨hno,rfl,bL⟩ | ⟨⟨k1,r1⟩,hx1,rfl,R1,bL⟩)
 ·refine aL.out _ _ _ ?_;refine⟨rfl,KD.trans (bL.sub (by simp)),.inl ⟨?_,rfl⟩⟩;rw[nV (t:=dS 7 cn) rfl,hno];rfl
 dsimp only at R1 ⊢;have x1:=xD.aw bL (by simp;omega);have t1:=tD.aw bL (by simp;omega);have K1:=KD.trans (bL.sub (by simp));refine hK _ _ ⟨⟨fun _=>x1,trivial⟩,?_⟩;clear hK K;try simp only[PT]
 refine sQ 5 fun K hK=>?_;simp only[GO];go_simp;refine(eT R1 2 (by decide) (by decide)).mono ?_;rintro e w2 (⟨hno,rfl,hw2⟩ | ⟨⟨k2,r2⟩,hx2,rfl,R2,hw2⟩)
 ·refine aL.out _ _ _ ?_;refine⟨rfl,K1.trans (hw2.sub (by simp)),.inl ⟨?_,rfl⟩⟩;rw[nV (t:=dS 7 cn) rfl,hx1,Option.bind_some];dsimp only;rw[hno];rfl
 dsimp only at R2 ⊢;have x2:=x1.aw hw2 (by simp;omega);have t2:=t1.aw hw2 (by simp;omega);have K2:=K1.trans (hw2.sub (by simp));have hk2:k2<65536:=by have:=(bN hx2).2;simpa using this
 refine hK _ _ ⟨⟨fun _=>x2,trivial⟩,?_⟩;clear hK K;try simp only[PT]
 refine fM 6 rfl (by kernel_rfl) (.int .i64 ((k2:Int)-1)) (by kernel_rfl) (fun w' _=>by go_simp;rw[IntKind.wrap_i64];omega) ?_;try simp only[PT]
 refine nQ 7 ?_;refine tQ [8] ?_;refine sQ 9 fun K hK=>?_;simp only[GO];refine aC 53 55 _ _ rfl (fun w=>by kernel_rfl) tb 27 ((dS 7 cn).cells bo bQ).toArray (.int .i64 (k1:Int)) rfl rfl t2 (by show 27<30;decide) rfl rfl fun w3 t3 hw3=>?_;have x3:=x2.aw hw3 (by simp;omega);refine hK _ _ ⟨⟨fun _=>x3,trivial⟩,?_⟩;clear hK K;try simp only[PT]
 refine nQ 10 ?_;refine tQ [11] ?_;refine sQ 12 fun K hK=>?_;simp only[GO];refine aC 3 55 _ _ rfl (fun w=>by kernel_rfl) tb 28 _ (.int .i64 ((k2:Int)-1)) rfl rfl t3 (by rw[Array.size_setIfInBounds];show 28<30;decide) rfl rfl fun w4 t4 hw4=>?_;have x4:=x3.aw hw4 (by simp;omega);have R4:=(R2.wrote hw3 (by simp;exact hB)).wrote hw4 (by simp;exact hB);refine hK _ _ ⟨⟨fun _=>x4,trivial⟩,?_⟩;clear hK K;try simp only[PT]
 refine dQ (aL.out _ _ _ ?_);have H:oL C B p tb (dS 7 cn) l W (.returned (.tuple #[])) w4:=⟨(K2.trans (hw3.sub (by simp))).trans (hw4.sub (by simp)),.inr ⟨⟨{dS 7 cn with arm:=(k1:Int),n:=(k2:Int)-1},bo,bQ⟩,r2,by rw[nV (t:=dS 7 cn) rfl,hx1,Option.bind_some];dsimp only;rw[hx2];rfl,rfl,R4,t4,fun M _=>vx.zero w4 _ ⟨rfl,rfl,rfl,rfl⟩ M⟩⟩
 go_end0
 exact H
def LX:Value:=.iface 157 (.agg #[])
def mn:List PanicEntry:=[{v:=LX,recovered:=false}]
theorem qN(b:Bool)(w:World):Calls prog 95 #[.bool b] w fun e w'=>e=(if b then .returned (.tuple #[])else .panicked mn)/\w=w':=by
 cases b with
 |true=>
  go_enter func95,ntmps95;go_wp2
  go_end0
  exact⟨rfl,rfl⟩
 |false=>go_enter func95,ntmps95;go_wp2;exact⟨rfl,rfl,rfl⟩
theorem eV{w:World}{B p:Nat}{l:List UInt8}(h:Rd w B p l)(k:Nat)(gW:1<=k)(hk:k<=2):
  Calls prog 129 #[.agg #[.pointer (some ⟨p,0,none⟩)],.int .i64 k] w fun e w'=>(aX k l=none/\e=.panicked mn/\ak [p] w w')\/∃x,aX k l=some x/\e=.returned (.int .i64 x.1)/\Rd w' B p x.2/\ak [p] w w':=by
 have hb0:Below w.heap.size w (w.alloc (.cells #[.pointer (some ⟨p,0,none⟩)] 161)):=ai.alloc ah _;have CR:=af (ma (h.ag hb0) k gW hk);have CM:=af qN;have W0:ak [p] w (w.alloc (.cells #[.pointer (some ⟨p,0,none⟩)] 161)):=ak.alloc _ _ _;have W0:=af W0;rcases l9 k l with⟨hlt,hn⟩ | ⟨hle,hn⟩
 ·have HN:=af hn;go_enter func129,ntmps129;go_wp2_with fail
  refine CR.mono ?_;rintro e w1 (⟨_,rfl,hb1⟩ | ⟨hle,rfl,jP,bL⟩)
  ·have HB:=af hb1;clear hb1 hlt;go_wp2_with (go_at_call 95;refine(CM _ _).mono ?_;rintro e w2 ⟨rfl,rfl⟩);exact⟨rfl,.inl ⟨HN.out,rfl,W0.trans (ak.aK HB.out)⟩⟩
  omega
 have HN:=af hn;have hbl:jO (l.take k)<65536:=by
  have h1:=lY (l.take k);have h2:(l.take k).length<=2:=by simp;omega
  have h3:256^(l.take k).length<=256^2:=Nat.pow_le_pow_right (by decide) h2;omega
 obtain⟨m,hm⟩:=ae (jO (l.take k));rw[hm]at CR hbl HN;obtain⟨z,hz⟩:∃z:Int,z=(m:Int):=⟨_,rfl⟩;rw[<-hz]at CR;have hz1:0<=z:=by omega
 have hz2:z<65536:=by omega
 have HZ:=af hz;clear hm hz hn hbl;go_enter func129,ntmps129;go_wp2_with fail
 refine CR.mono ?_;rintro e w1 (⟨hlt,rfl,hb1⟩ | ⟨_,rfl,jP,bL⟩)
 ·omega
 have HR:=af jP;have HW:=af bL;clear jP bL hle;go_wp2_with (go_at_call 95;refine(CM _ _).mono ?_;rintro e w2 ⟨rfl,rfl⟩);go_ret;exact .inr ⟨_,HN.out,by rw[HZ.out];rfl,HR.out,W0.trans HW.out⟩
theorem ju{w:World}{B p:Nat}{l:List UInt8}(h:Rd w B p l):
  Calls prog 141 #[.agg #[.pointer (some ⟨p,0,none⟩)]] w fun e w'=>(bC l=none/\e=.panicked mn/\ak [p] w w')\/∃x,bC l=some x/\e=.returned (.string ⟨x.1.toArray⟩)/\Rd w' B p x.2/\ak [p] w w':=by
 have hb0:Below w.heap.size w (w.alloc (.cells #[.pointer (some ⟨p,0,none⟩)] 161)):=ai.alloc ah _;have CR:=af (u2 (h.ag hb0));have CM:=af qN;have W0:ak [p] w (w.alloc (.cells #[.pointer (some ⟨p,0,none⟩)] 161)):=ak.alloc _ _ _;have W0:=af W0;go_enter func141,ntmps141;go_wp2_with fail
 refine CR.mono ?_;rintro e w1 (⟨hn,rfl,jP,bL⟩ | ⟨⟨s,r⟩,hn,rfl,jP,bL⟩)
 ·have HN:=af hn;have HW:=af bL;clear bL hn;go_wp2_with (go_at_call 95;refine(CM _ _).mono ?_;rintro e w2 ⟨rfl,rfl⟩);exact⟨rfl,.inl ⟨HN.out,rfl,W0.trans HW.out⟩⟩
 have HN:=af hn;have HW:=af bL;have HR:=af jP;clear bL hn jP;dsimp only at HR;go_wp2_with (go_at_call 95;refine(CM _ _).mono ?_;rintro e w2 ⟨rfl,rfl⟩)
 go_ret;exact .inr ⟨_,HN.out,rfl,HR.out,W0.trans HW.out⟩
theorem Tryz.vF:fL prog 22 5 (.int .u8 0) 1 1:=⟨underlying22,by kernel_rfl,rfl⟩
structure ReI (B p:Nat)(l:List UInt8)(w:World)(j:Nat)(v:Value)(W:World):Prop where
 rd:Rd W B p (l.drop j)
 own:W.ownsRow (w.heap.size+1) 5 1 v j (bs (l.take j))
 wrote:ak [p] w W
 box:ar W w.heap.size #[.pointer (some ⟨p,0,none⟩)] 161
 le:j<=l.length
theorem F7{w:World}{B p:Nat}{l:List UInt8}(h:Rd w B p l):Calls prog 210 #[.agg #[.pointer (some ⟨p,0,none⟩)]] w fun e w'=>e=.returned (.string ⟨l.toArray⟩)/\Rd w' B p []/\ak [p] w w':=by
 obtain⟨W0,hW0⟩:=ae (w.alloc (.cells #[.pointer (some ⟨p,0,none⟩)] 161));have hs0:W0.heap.size=w.heap.size+1:=by rw[<-hW0];simp
 have kF:=h.lt;have mH:=h.base;have Ff:=h.len;have LY:Hid (ReI B p l w 0 (.slice none 0 0) W0):=af (by
  refine⟨?_,World.ownsRow_nil _ _ _ _,?_,?_,Nat.zero_le _⟩
  ·rw[<-hW0];exact h.ag (ai.alloc ah _)
  ·rw[<-hW0];exact ak.alloc _ _ _
  rw[<-hW0];exact ar.new _ _ _)
 have CL:=af (fun(W:World)(l':List UInt8)(h:Rd W B p l')=>lu h);have CN:=af (fun(W:World)(l':List UInt8)(h:Rd W B p l')=>eV h 1 (by decide) (by decide));clear h;go_enter func210,ntmps210;go_wp2_with fail
 go_loopw [3] (fun v wr=>∃(j:Nat)(av:Option Addr)(cv:Nat),v=.slice av j cv/\Hid (ReI B p l w j (.slice av j cv) wr)) (fun _ wr=>iY (wr.cell? ⟨p,0,none⟩))
 case atStart=>exact⟨0,none,0,rfl,LY⟩
 case round=>
  obtain⟨j,av,cv,rfl,hI⟩:=hrel;have kq:wr.cell? ⟨w.heap.size,0,none⟩=some (.pointer (some ⟨p,0,none⟩)):=hI.out.box.cell 0;have yR:=af (CL wr _ hI.out.rd);have IA:(l.drop j).length=l.length-j:=List.length_drop;have vW:=hI.out.le;obtain⟨m,hm⟩:=ae ((l.drop j).length);rw[hm]at yR IA;rcases Nat.eq_zero_or_pos m with hz | zQ
  ·subst hz;have hje:Hid (j=l.length):=af (by omega);have hrow:=ax.gK hI.out.own;obtain⟨a2,c2,e2,hrow⟩:=hrow;cases e2;have KM:=dX hrow;rw[show l.take j=l by rw[hje,List.take_length]]at KM;have H:=af (show Rd wr B p []/\ak [p] w wr from⟨by have:=hI.out.rd;rwa [List.drop_eq_nil_of_le (by rw[hje];exact Nat.le_refl _)]at this,hI.out.wrote⟩);clear hrow IA hm;go_wp2_with fail;refine yR.mono ?_;rintro e w1 ⟨rfl,rfl⟩;go_wp2_with fail
   go_ret;exact⟨rfl,H.out⟩
  have vW:j<l.length:=by omega
  obtain⟨x,hx⟩:∃x,l[j]?=some x:=⟨_,List.getElem?_eq_getElem vW⟩;have hdr:l.drop j=x::l.drop (j+1):=by rw[List.drop_eq_getElem_cons vW];rw[List.getElem?_eq_getElem vW]at hx;cases hx;rfl
  have UU:Hid (bs (l.take (j+1))=bs (l.take j)++[.int .u8 ((x.toNat:Nat):Int)]):=af (by rw[List.take_add_one,hx];simp[bs])
  have qO:aX 1 (l.drop j)=some (x.toNat,l.drop (j+1)):=by unfold aX;rw[hdr];simp[jO]
  have CNJ:=af (CN wr _ hI.out.rd);rw[qO]at CNJ;obtain⟨z,hz⟩:=ae (((x.toNat:Nat):Int):Int);have hz0:0<=z:=by omega
  have hz1:z<256:=by have:=x.toNat_lt;omega
  rw[hz]at UU;have JY:j+1<=70368744177664:=by omega
  have hs1:=hI.out.wrote.size;have hlt:=hI.out.box.lt;replace hz:=af hz;have HJ:=af vW;clear IA hm hx hdr qO vW;go_wp2_with fail;refine yR.mono ?_;rintro e w1 ⟨rfl,rfl⟩;go_wp2_with fail
  refine CNJ.mono ?_;rintro e w2 (⟨hno,rfl,hw2⟩ | ⟨y,hy,rfl,mC,hw2⟩)
  ·cases hno
  cases hy;dsimp only at mC ⊢;rw[hz.out];have DA:=af mC;have HO:=af hI.out.own;have tG:w2.ownsRow (w.heap.size+1) 5 1 (.slice av j cv) j (bs (l.take j)):=hw2.row (by simp;omega) HO.out;have HW:=af (hI.out.wrote.trans hw2);have rf:=af (hI.out.box.aw hw2 (by simp;omega));have hs2:=hw2.size;clear hw2 mC;go_wp2_with (at_builtin;refine dt rfl _ _ rfl Tryz.vF (w.heap.size+1) _ _ _ rfl tG (.int .u8 z) rfl rfl (by omega) (by omega) (by omega) ?_;intro v' w4 dI hg4);obtain⟨a4,c4,rfl⟩:=aA dI;have hv:∀y∈blk (.slice av j cv),w.heap.size+1<=y:=fun y hy=>(HO.lt y (bA.1 hy)).1;have hw4:ak (blk (.slice av j cv)) w2 w4:=ak.ep hg4 (fun q hq=>bA.2 hq);have xJ:=DA.wrote hw4 (fun y hy=>by have:=hv y hy;omega);refine⟨⟨j+1,a4,c4,rfl,af ⟨xJ,by rw[UU];exact dI,HW.fu hw4 (fun y hy=>by have:=hv y hy;omega),rf.aw hw4 (fun h=>by have:=hv _ h;omega),HJ.out⟩⟩,?_⟩;rw[xJ.iY,hI.out.rd.iY,List.length_drop,List.length_drop];have:=HJ.out;omega
structure A8 (C:bT)(l:List UInt8)(w:World)(e:Ending)(w':World):Prop where
 ag:Below w.heap.size w w'
 out:(65536<l.length/\e=.returned (.tuple #[.agg kR.cells.toArray,.int .i64 3]))\/(l.length<=65536/\(∀s,bh C false l=some s->¬bZ s)/\e=.returned (.tuple #[.agg kR.cells.toArray,.int .i64 390]))\/
  (l.length<=65536/\∃s:lj,bh C false l=some s.sc/\bZ s.sc/\e=.returned (.tuple #[.agg s.cells.toArray,.int .i64 0])/\s.In w')
theorem vG(C:bT)(a:Option Addr)(n c:Nat)(l:List UInt8)(w:World)(hrow:ax w a n c (bs l))(hn:n<=70368744177664)(hT:TzAt w)
  (hN:∀s,bh C false l=some s->vr s.cf) (hK:∀s,bh C false l=some s->∀x:dE,x.t∈s.ts->np x) (hD:19<=l.length->∀k,yL C k):
  Calls prog 8 #[.slice a n c] w (A8 C l w):=by
 have wA:∀(fn:Fn)(first cap:Array Value)(w:World),(Instr.makeFunc fn first cap).run prog w=.ok (.func fn first cap) w:=fun _ _ _ _=>rfl;obtain⟨W0,hW0⟩:=ae (w.alloc (.cells #[.slice a n c] 22));have hb0:Below w.heap.size w W0:=by rw[<-hW0];exact ai.alloc ah _
 have hg0:Boxed W0 w.heap.size 22 (.slice a n c):=by rw[<-hW0];exact Boxed.new _ _ _
 obtain⟨W1,hW1⟩:=ae (W0.alloc (.cells #[.int .i64 0,.int .i64 0,.int .i64 0,.int .i64 0,.int .i64 0,.int .i64 0,.string ⟨#[]⟩,.int .i64 0,.slice none 0 0] 30));have hb1:Below w.heap.size w W1:=by rw[<-hW1];exact hb0.alloc hb0.size _
 have hx1:ar W1 W0.heap.size kR.cells.toArray 30:=by rw[<-hW1];exact ar.new _ _ _
 have hg1:Boxed W1 w.heap.size 22 (.slice a n c):=by rw[<-hW1];exact hg0.alloc _
 have hw0:=hg0.lt;have bL:=hx1.lt;obtain⟨b,lN⟩:=ae W0.heap.size;rw[lN]at hx1 bL hw0;have he:=enters_of func18 (by kernel_rfl) rfl;have gW:QK w b W1.heap.size (W1.alloc (.cells #[.int .i64 0] 31)):=⟨hb1.alloc hb1.size _,hx1.alloc _,Boxed.new _ _ _⟩;have C1:=af (Ad 18 #[.pointer (some ⟨w.heap.size,0,none⟩),.pointer (some ⟨b,0,none⟩)] (Tt C l w b W1.heap.size) W1 he
  (Im C a n c l w (W1.alloc (.cells #[.int .i64 0] 31)) w.heap.size b W1.heap.size (hrow.ag (hb1.alloc hb1.size _)) (hg1.alloc _) gW hn (hT.ag (hb1.alloc hb1.size _)) (by omega) (by omega) hN hK hD))
 have mH:=af (show w.heap.size<=b by omega);replace bL:=af bL;replace hb1:=af hb1;clear hrow hT hN hK hD hg0 hg1 hb0 gW hx1;go_enter func8,ntmps8;go_wp2_with fail
 refine C1.mono ?_;rintro e w2 ⟨o,w1,rfl,hR,hb2,hl⟩;obtain⟨z,hz⟩:=ae (o.getD 0);have hsz:(w1.setCell ⟨W1.heap.size,0,none⟩ (.int .i64 (o.getD 0))).heap.size=w1.heap.size:=by simp
 have hse:ak [W1.heap.size] w1 (w1.setCell ⟨W1.heap.size,0,none⟩ (.int .i64 (o.getD 0))):=ak.setCell w1 _ (by simp) _;have Pa:ak [W1.heap.size] w1 w2:=hse.trans (ak.aK (by rw[hsz];exact hb2));have AE:Below w.heap.size w w2:=hR.ag.trans (Pa.ag (n₀:=w.heap.size) hR.ag.size (by have:=hb1.size;simp;omega));obtain⟨s,hv,hA⟩:∃s:lj,ar w2 b s.cells.toArray 30/\∀w3,Below w.heap.size w w3->ak [b] w2 w3->A8 C l w (.returned (.tuple #[.agg s.cells.toArray,.int .i64 (o.getD 0)])) w3:=by
  have Qt:∀cs,ar w1 b cs 30->ar w2 b cs 30:=fun cs h=>h.aw Pa (by have:=bL.out;simp;omega);rcases hR.out with⟨h1,rfl,h3⟩ | ⟨h1,h2,rfl,h3⟩ | ⟨h1,s,h2,h3,rfl,h4,h5⟩
  ·exact⟨kR,Qt _ h3,fun w3 hb _=>⟨hb,.inl ⟨h1,rfl⟩⟩⟩
  ·exact⟨kR,Qt _ h3,fun w3 hb _=>⟨hb,.inr (.inl ⟨h1,h2,rfl⟩)⟩⟩
  refine⟨s,Qt _ h4,fun w3 hb hw=>⟨hb,.inr (.inr ⟨h1,s,h2,h3,rfl,?_⟩)⟩⟩;exact h5 w3 ((Pa.sub (by simp)).trans (hw.sub (by simp)))
 rw[hz]at hA ⊢;obtain⟨sv,eQ⟩:=ae s.cells.toArray;have is:(prog.info? 30).map (·.size)=some sv.size:=by rw[<-eQ];exact(by kernel_rfl:(prog.info? 30).map (·.size)=some 9)
 have hsize:sv.size=9:=by rw[<-eQ];rfl
 have aV:Hid (∀u∈sv.toList,u.oneCell'=true):=af (by rw[<-eQ];simp[lj.cells,Value.oneCell']);rw[eQ]at hv hA;replace hA:=af hA;replace AE:=af AE;replace hsize:=af hsize;clear hb2 hR hl hsz hse Pa hz eQ;go_wp2_with (first
  | (refine wL 30 rfl rfl hv underlying30 ?_ rfl rfl is)
  | (refine wS 30 9 rfl b sv sv rfl rfl hv hsize.out hsize.out aV.out ?_;intro w3 hv3 hw3))
 refine bodyPost_ret (aS results8 rfl (aj hv3 30 underlying30 rfl is) rfl) rfl ?_;exact hA w3 (AE.trans (hw3.ag (n₀:=w.heap.size) AE.size (by simp;exact mH.out))) hw3
end
end Go.Proofs.YtkghejaimhoboaaGreatDoor
