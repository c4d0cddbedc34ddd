/- Parts of the proof of ScriptTurns. -/
import Derived.Test.YtkghejaimhoboaaGreatDoorPk14
set_option linter.unusedSimpArgs false
set_option linter.unusedVariables false
set_option maxRecDepth 100000
set_option maxHeartbeats 8000000
namespace Go.Proofs.YtkghejaimhoboaaGreatDoor
open Go.RowKit Go.Shelf Go.Proofs.Tryz
def Ox:List UInt8:=[0,4,77,81,84,84,4]
def xH(f:Nat):Nat:=1+aY (has f 4) 2+aY (has f 128) 1+aY (has f 64) 1
def DF(f:Nat)(keep:Int)(xs:List (List UInt8)):Pk:=
 let l:=xs.tail
 let l2:=if has f 4 then l.tail.tail else l
 let l3:=if has f 128 then l2.tail else l2
 let v:gp:=⟨(if has f 4 then l.headD []else[]),(if has f 4 then l.tail.headD []else[]),((f / 8%4:Nat):Int),has f 32⟩
 {aN 1 with hasUser:=has f 128,hasPass:=has f 64,hasWill:=has f 4,clean:=has f 2,keep:=keep,client:=xs.headD [],will:=v,user:=(if has f 128 then l2.headD []else[]),pass:=(if has f 64 then l3.headD []else[])}
def pD(l:List UInt8):Option Pk:=
 if l.length<10\/l.take 7≠Ox then none else(bJ bC (xH ((l[7]?.getD 0).toNat)) (l.drop 10)).bind fun x=>some (DF ((l[7]?.getD 0).toNat) ((256*(l[8]?.getD 0).toNat+(l[9]?.getD 0).toNat:Nat):Int) x.1)
def kN(k:Int)(l:List UInt8):Option Pk:=
 if k=9 then(l6 l).bind fun x=>some x.1 else if k=8 then(l5 l).bind fun x=>some x.1
 else(aX 2 l).bind fun i=>(cx bC i.2.length i.2).bind fun w=>some {aN k with id:=(i.1:Int),filters:=w}
def nh(k:Int)(f:Nat)(l:List UInt8):Option Pk:=
 if k=1 then pD l else if k=2/\l.length=2 then some {aN 2 with present:=decide ((l[0]?.getD 0).toNat=1),code:=(((l[1]?.getD 0).toNat:Nat):Int)}
 else if k=3 then(jm f l).bind fun x=>some x.1 else if 4<=k/\k<=11 then kN k l else some (aN k)
theorem ni(n:Nat)(h:n<256):ay 1 n=[UInt8.ofNat n]:=by simp[ay,Nat.mod_eq_of_lt h]
theorem KO(n:Nat):ay 2 n=[UInt8.ofNat (n / 256%256),UInt8.ofNat (n%256)]:=by simp[ay]
theorem Hk{p:Pk}(h:aZ p)(hk:p.kind=1):pD (bj p)=some p:=by
 obtain⟨hm,ha⟩:=h;have hm:oo p=true:=by unfold bV at hm;rwa [if_pos hk]at hm
 obtain⟨h1,h2,h3,h4,h5⟩:=iG hm;have hc:=dU h1;have hq:p.will.qos.toNat<4/\0<=p.will.qos:=by
  rcases h3 with⟨-,e⟩ | ⟨-, -, -,e1,e2⟩
  ·rw[e];decide
  omega
 obtain⟨b1,b2,b3,b4,b5,b6,b7⟩:=qu p.hasUser p.hasPass p.will.retain p.hasWill p.clean p.will.qos.toNat hq.1;have hN:dT p=aY p.hasUser 128+aY p.hasPass 64+aY p.will.retain 32+aY p.hasWill 4+aY p.clean 2+8*p.will.qos.toNat:=rfl;rw[<-hN]at b1 b2 b3 b4 b5 b6 b7;obtain⟨N,hNe⟩:=ae (dT p);rw[hNe]at b1 b2 b3 b4 b5 b6 b7;have rH:aQ p={aN 1 with client:=p.client,clean:=p.clean,keep:=p.keep,hasWill:=p.hasWill,will:=p.will,hasUser:=p.hasUser,hasPass:=p.hasPass,user:=p.user,pass:=p.pass}:=by unfold aQ;rw[if_pos hk]
 obtain⟨xs,pS⟩:∃xs,xs=p.client::((if p.hasWill then[p.will.topic,p.will.body]else[])++((if p.hasUser then[p.user]else[])++if p.hasPass then[p.pass]else[])):=⟨_,rfl⟩;have mK:xs.flatMap aI=aI p.client++((if p.hasWill then aI p.will.topic++aI p.will.body else[])++((if p.hasUser then aI p.user else[])++(if p.hasPass then aI p.pass else[]))):=by rw[pS,List.flatMap_cons,List.flatMap_append,List.flatMap_append];cases p.hasWill<;>cases p.hasUser<;>cases p.hasPass<;>simp
 have Qq:xs.length=xH N:=by rw[pS];unfold xH;rw[b4,b1,b2];cases p.hasWill<;>cases p.hasUser<;>cases p.hasPass<;>rfl
 have yr:∀x∈xs,x.length<65536:=by
  intro x hx;rw[pS]at hx;simp only[List.mem_cons,List.mem_append]at hx;rcases hx with rfl | hx | hx | hx
  ·omega
  ·rcases h3 with⟨e, -⟩ | ⟨e,f,g, -⟩
   ·rw[e]at hx;simp at hx
   rw[e]at hx;have:=ez f;simp at hx;rcases hx with rfl | rfl<;>omega
  ·rcases h4 with⟨e,f⟩ | ⟨e, -⟩
   ·rw[e]at hx;have:=dU f;simp at hx;subst hx;omega
   rw[e]at hx;simp at hx
  rcases h5 with⟨e,f⟩ | ⟨e, -⟩
  ·rw[e]at hx;simp at hx;subst hx;omega
  rw[e]at hx;simp at hx
 have hb:bj p=Ox++(UInt8.ofNat N::UInt8.ofNat (p.keep.toNat / 256%256)::UInt8.ofNat (p.keep.toNat%256)::xs.flatMap aI):=by unfold bj;rw[if_pos hk,hNe,ni 4 (by decide),ni N b7,KO,mK];rfl
 obtain⟨ys,Cb⟩:=ae (xs.flatMap aI);have eA:=mh bC aI (fun x=>x.length<65536) (fun x r hx=>dJ x hx r) xs [] yr;rw[List.append_nil,Qq,Cb]at eA;rw[hb,Cb];unfold pD;have e7:((Ox++(UInt8.ofNat N::UInt8.ofNat (p.keep.toNat / 256%256)::UInt8.ofNat (p.keep.toNat%256)::ys))[7]?.getD 0).toNat=N:=by show(UInt8.ofNat N).toNat=N;exact gv N b7
 have e8:((Ox++(UInt8.ofNat N::UInt8.ofNat (p.keep.toNat / 256%256)::UInt8.ofNat (p.keep.toNat%256)::ys))[8]?.getD 0).toNat=p.keep.toNat / 256:=by show(UInt8.ofNat (p.keep.toNat / 256%256)).toNat=_;rw[gv _ (Nat.mod_lt _ (by decide))];omega
 have e9:((Ox++(UInt8.ofNat N::UInt8.ofNat (p.keep.toNat / 256%256)::UInt8.ofNat (p.keep.toNat%256)::ys))[9]?.getD 0).toNat=p.keep.toNat%256:=by show(UInt8.ofNat (p.keep.toNat%256)).toNat=_;exact gv _ (Nat.mod_lt _ (by decide))
 rw[e7,e8,e9,if_neg (by simp[Ox])];rw[show(Ox++(UInt8.ofNat N::UInt8.ofNat (p.keep.toNat / 256%256)::UInt8.ofNat (p.keep.toNat%256)::ys)).drop 10=ys from rfl,eA,Option.bind_some];dsimp only;have Qt:((256*(p.keep.toNat / 256)+p.keep.toNat%256:Nat):Int)=p.keep:=by omega
 have abh:(256*(p.keep.toNat / 256)+p.keep.toNat%256)=p.keep.toNat:=by omega
 rw[abh,Int.toNat_of_nonneg h2.1];refine congrArg some (Eq.trans ?_ (rH.symm.trans ha));unfold DF;rw[b1,b2,b3,b4,b5,b6,Int.toNat_of_nonneg hq.2,pS];rcases h3 with⟨e,f⟩ | ⟨e, -⟩
 ·rw[e,f];rcases h4 with⟨e2, -⟩ | ⟨e2,f2⟩<;>rcases h5 with⟨e3, -⟩ | ⟨e3,f3⟩<;>rw[e2,e3]<;>simp[*,dx]
 rw[e];rcases h4 with⟨e2, -⟩ | ⟨e2,f2⟩<;>rcases h5 with⟨e3, -⟩ | ⟨e3,f3⟩<;>rw[e2,e3]<;>simp[*]
theorem Hl{p:Pk}(h:aZ p)(hk:4<=p.kind/\p.kind<=11):kN p.kind (bj p)=some p:=by
 have hr:=mb h;unfold cj at hr;rw[if_neg (by omega),if_neg (by omega),if_neg (by omega)]at hr;unfold kN;by_cases k8:p.kind=8
 ·rw[if_pos k8]at hr;rw[if_neg (by omega),if_pos k8,hr,Option.bind_some]
 rw[if_neg k8]at hr;by_cases k9:p.kind=9
 ·rw[if_pos k9]at hr;rw[if_pos k9,hr,Option.bind_some]
 rw[if_neg k9]at hr;rw[if_neg k9,if_neg k8];by_cases gI:p.kind=10
 ·rw[if_pos gI]at hr;unfold l7 at hr;cases h1:aX 2 (bj p)with
  | none=>rw[h1]at hr;cases hr
  | some i=>
   rw[h1,Option.bind_some]at hr;rw[Option.bind_some];cases h2:cx bC i.2.length i.2 with
   | none=>rw[h2]at hr;cases hr
   |some w=>rw[h2,Option.bind_some]at hr;rw[Option.bind_some,gI];simp only[Option.some.injEq,Prod.mk.injEq,and_true]at hr;rw[hr]
 rw[if_neg gI,if_pos hk]at hr;unfold m7 at hr;cases h1:aX 2 (bj p)with
 | none=>rw[h1]at hr;cases hr
 |some i=>rw[h1,Option.bind_some]at hr;rw[Option.bind_some];simp only[Option.some.injEq,Prod.mk.injEq]at hr;obtain⟨hp,h2⟩:=hr;rw[h2];show some _=_;exact congrArg some hp
theorem Hm{p:Pk}(h:aZ p):nh p.kind (cE p) (bj p)=some p:=by
 have hr:=mb h;unfold nh;by_cases k1:p.kind=1
 ·rw[if_pos k1];exact Hk h k1
 rw[if_neg k1];by_cases k2:p.kind=2
 ·have hb:=qx k2;obtain⟨hm,ha⟩:=h;unfold bV at hm;rw[if_neg k1,if_pos k2]at hm;unfold uY at hm;simp only[Bool.and_eq_true,within_iff]at hm;have hN:aY p.present 1<256/\decide (aY p.present 1=1)=p.present:=by cases p.present<;>decide
  rw[ni _ hN.1,ni p.code.toNat (by omega)]at hb;rw[hb,if_pos ⟨k2,rfl⟩];have e0:(([UInt8.ofNat (aY p.present 1)]++[UInt8.ofNat p.code.toNat])[0]?.getD 0).toNat=aY p.present 1:=gv _ hN.1;have e1:(([UInt8.ofNat (aY p.present 1)]++[UInt8.ofNat p.code.toNat])[1]?.getD 0).toNat=p.code.toNat:=gv _ (by omega);rw[e0,e1,hN.2,Int.toNat_of_nonneg hm.1.1];unfold aQ at ha;rw[if_neg k1,if_pos k2]at ha;rw[ha]
 rw[if_neg (fun e=>k2 e.1)];unfold cj at hr;rw[if_neg k1,if_neg k2]at hr;by_cases k3:p.kind=3
 ·rw[if_pos k3]at hr;rw[if_pos k3,hr,Option.bind_some]
 rw[if_neg k3];by_cases k4:4<=p.kind/\p.kind<=11
 ·rw[if_pos k4];exact Hl h k4
 rw[if_neg k4];obtain⟨hm,ha⟩:=h;unfold aQ at ha;rw[if_neg k1,if_neg k2,if_neg k3,if_neg (by omega),if_neg (by omega),if_neg (by omega),if_neg k4]at ha;rw[ha]
end Go.Proofs.YtkghejaimhoboaaGreatDoor
