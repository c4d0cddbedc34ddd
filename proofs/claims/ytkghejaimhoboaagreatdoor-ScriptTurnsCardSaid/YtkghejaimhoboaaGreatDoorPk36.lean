/- Parts of the proof of ScriptTurns. -/
import Derived.Test.YtkghejaimhoboaaGreatDoorPk33
import Derived.Test.YtkghejaimhoboaaGreatDoorPk34
set_option linter.unusedSimpArgs false
set_option linter.unusedVariables false
set_option maxRecDepth 100000
set_option maxHeartbeats 8000000
namespace Go.Proofs.YtkghejaimhoboaaGreatDoor
open Go.RowKit Go.Shelf Go.Proofs.Tryz
section
attribute [local go_sem] Oper.semAt_some
def km(b:Nat->Nat)(k:Nat)(W:World):Prop:=4<=k->k<=11->kQ b k W
structure Pp (b:Nat->Nat)(p:Pk)(h:H3)(f1:FuncId)(c1:Array Value)(f2:FuncId)(c2:Array Value):Prop where
 e1:gY f1
 e2:gY f2
 may:∀W,p.In W h->km b p.kind.toNat W->Calls prog f1 (#[.agg (p.cells h).toArray]++c1) W (dD (bV p) W)
 has:∀W,km b p.kind.toNat W->Calls prog f2 (#[.agg (p.cells h).toArray]++c2) W fun e w'=>∃(y:Pk)(hy:H3),e=.returned (.agg (y.cells hy).toArray)/\{y with kind:=p.kind}=aQ p/\(∀W',p.In W' h->y.In W' hy)/\Below W.heap.size W w'
theorem km.eM{b:Nat->Nat}{p:Pk}{k:Nat}{W:World}(h:km b p.kind.toNat W)(hk:p.kind=(k:Int))(h4:4<=k)(h11:k<=11):kQ b k W:=by
 have e:p.kind.toNat=k:=by rw[hk];rfl
 rw[e]at h;exact h h4 h11
theorem In.z(W:World)(y:Pk)(h:y.wants=[]/\y.codes=[]/\y.filters=[]):y.In W bo:=by
 obtain⟨a,b,c⟩:=h;refine⟨?_,?_,?_⟩
 ·rw[a];exact aW.nil W
 ·rw[b];exact aW.nil W
 rw[c];exact aW.nil W
theorem XV(b:Nat->Nat)(p:Pk)(h:H3)(hs:yT p)(hfw:(∀x∈p.wants,x.filter.length<=2000000)/\∀x∈p.filters,x.length<=2000000)(k:Nat)(hk:p.kind=(k:Int))(gW:1<=k/\k<=14):∃f1 c1 f2 c2 g3 g4 g5,dg b k=.agg #[bG f1 c1,bG f2 c2,g3,g4,g5]/\Pp b p h f1 c1 f2 c2:=by
 have:k=1\/k=2\/k=3\/k=4\/k=5\/k=6\/k=7\/k=8\/k=9\/k=10\/k=11\/k=12\/k=13\/k=14:=by omega
 rcases this with rfl | rfl | rfl | rfl | rfl | rfl | rfl | rfl | rfl | rfl | rfl | rfl | rfl | rfl
 ·refine⟨197,#[],200,#[],_,_,_,rfl,enters_of func197 (by kernel_rfl) rfl,enters_of func200 (by kernel_rfl) rfl,fun W cd ey=>?_,fun W ey=>?_⟩
  ·have e:bV p=oo p:=by unfold bV;simp[hk]
   rw[e];exact Iy p h W hs
  have e:aQ p={aN 1 with client:=p.client,clean:=p.clean,keep:=p.keep,hasWill:=p.hasWill,will:=p.will,hasUser:=p.hasUser,hasPass:=p.hasPass,user:=p.user,pass:=p.pass}:=by unfold aQ;simp[hk]
  rw[e];exact(IL p h W).mono fun e w' ⟨he,hb⟩=>⟨_,_,he,by rw[hk];rfl,fun W' hW=>In.z W' _ ⟨rfl,rfl,rfl⟩,hb⟩
 ·refine⟨123,#[],125,#[],_,_,_,rfl,enters_of func123 (by kernel_rfl) rfl,enters_of func125 (by kernel_rfl) rfl,fun W cd ey=>?_,fun W ey=>?_⟩
  ·have e:bV p=uY p:=by unfold bV;simp[hk]
   rw[e];exact Ir p h W
  have e:aQ p={aN 2 with present:=p.present,code:=p.code}:=by unfold aQ;simp[hk]
  rw[e];exact(IQ p h W).mono fun e w' ⟨he,hb⟩=>⟨_,_,he,by rw[hk];rfl,fun W' hW=>In.z W' _ ⟨rfl,rfl,rfl⟩,hb⟩
 ·refine⟨204,#[],205,#[],_,_,_,rfl,enters_of func204 (by kernel_rfl) rfl,enters_of func205 (by kernel_rfl) rfl,fun W cd ey=>?_,fun W ey=>?_⟩
  ·have e:bV p=fy p:=by unfold bV;simp[hk]
   rw[e];exact Iu p h W hs
  have e:aQ p={aN 3 with topic:=p.topic,body:=p.body,qos:=p.qos,retain:=p.retain,dup:=p.dup,id:=p.id}:=by unfold aQ;simp[hk]
  rw[e];exact(IP p h W).mono fun e w' ⟨he,hb⟩=>⟨_,_,he,by rw[hk];rfl,fun W' hW=>In.z W' _ ⟨rfl,rfl,rfl⟩,hb⟩
 ·refine⟨183,#[.pointer (some ⟨b 4+2,0,none⟩)],184,#[.pointer (some ⟨b 4+1,0,none⟩)],_,_,_,rfl,enters_of func183 (by kernel_rfl) rfl,enters_of func184 (by kernel_rfl) rfl,fun W cd ey=>?_,fun W ey=>?_⟩
  ·have e:bV p=(within p.id 1 65535&&true):=by unfold bV;simp[hk]
   rw[e];exact fG 212 (b 4) (true) p h W (enters_of func212 (by kernel_rfl) rfl) (km.eM ey hk (by decide) (by decide)).may (fun W1 _=>lG _ W1)
  have e:aQ p={aN 4 with id:=p.id}:=by unfold aQ;simp[hk]
  rw[e];exact(fD 211 (b 4) p h ((aN 0)) bo W (enters_of func211 (by kernel_rfl) rfl) (km.eM ey hk (by decide) (by decide)).has (fun W1=>lI p h W1)).mono fun e w' ⟨he,hb⟩=>⟨_,_,he,by rw[hk];rfl,fun W' hW=>In.z W' _ ⟨rfl,rfl,rfl⟩,hb⟩
 ·refine⟨183,#[.pointer (some ⟨b 5+2,0,none⟩)],184,#[.pointer (some ⟨b 5+1,0,none⟩)],_,_,_,rfl,enters_of func183 (by kernel_rfl) rfl,enters_of func184 (by kernel_rfl) rfl,fun W cd ey=>?_,fun W ey=>?_⟩
  ·have e:bV p=(within p.id 1 65535&&true):=by unfold bV;simp[hk]
   rw[e];exact fG 212 (b 5) (true) p h W (enters_of func212 (by kernel_rfl) rfl) (km.eM ey hk (by decide) (by decide)).may (fun W1 _=>lG _ W1)
  have e:aQ p={aN 5 with id:=p.id}:=by unfold aQ;simp[hk]
  rw[e];exact(fD 211 (b 5) p h ((aN 0)) bo W (enters_of func211 (by kernel_rfl) rfl) (km.eM ey hk (by decide) (by decide)).has (fun W1=>lI p h W1)).mono fun e w' ⟨he,hb⟩=>⟨_,_,he,by rw[hk];rfl,fun W' hW=>In.z W' _ ⟨rfl,rfl,rfl⟩,hb⟩
 ·refine⟨183,#[.pointer (some ⟨b 6+2,0,none⟩)],184,#[.pointer (some ⟨b 6+1,0,none⟩)],_,_,_,rfl,enters_of func183 (by kernel_rfl) rfl,enters_of func184 (by kernel_rfl) rfl,fun W cd ey=>?_,fun W ey=>?_⟩
  ·have e:bV p=(within p.id 1 65535&&true):=by unfold bV;simp[hk]
   rw[e];exact fG 212 (b 6) (true) p h W (enters_of func212 (by kernel_rfl) rfl) (km.eM ey hk (by decide) (by decide)).may (fun W1 _=>lG _ W1)
  have e:aQ p={aN 6 with id:=p.id}:=by unfold aQ;simp[hk]
  rw[e];exact(fD 211 (b 6) p h ((aN 0)) bo W (enters_of func211 (by kernel_rfl) rfl) (km.eM ey hk (by decide) (by decide)).has (fun W1=>lI p h W1)).mono fun e w' ⟨he,hb⟩=>⟨_,_,he,by rw[hk];rfl,fun W' hW=>In.z W' _ ⟨rfl,rfl,rfl⟩,hb⟩
 ·refine⟨183,#[.pointer (some ⟨b 7+2,0,none⟩)],184,#[.pointer (some ⟨b 7+1,0,none⟩)],_,_,_,rfl,enters_of func183 (by kernel_rfl) rfl,enters_of func184 (by kernel_rfl) rfl,fun W cd ey=>?_,fun W ey=>?_⟩
  ·have e:bV p=(within p.id 1 65535&&true):=by unfold bV;simp[hk]
   rw[e];exact fG 212 (b 7) (true) p h W (enters_of func212 (by kernel_rfl) rfl) (km.eM ey hk (by decide) (by decide)).may (fun W1 _=>lG _ W1)
  have e:aQ p={aN 7 with id:=p.id}:=by unfold aQ;simp[hk]
  rw[e];exact(fD 211 (b 7) p h ((aN 0)) bo W (enters_of func211 (by kernel_rfl) rfl) (km.eM ey hk (by decide) (by decide)).has (fun W1=>lI p h W1)).mono fun e w' ⟨he,hb⟩=>⟨_,_,he,by rw[hk];rfl,fun W' hW=>In.z W' _ ⟨rfl,rfl,rfl⟩,hb⟩
 ·refine⟨183,#[.pointer (some ⟨b 8+2,0,none⟩)],184,#[.pointer (some ⟨b 8+1,0,none⟩)],_,_,_,rfl,enters_of func183 (by kernel_rfl) rfl,enters_of func184 (by kernel_rfl) rfl,fun W cd ey=>?_,fun W ey=>?_⟩
  ·have e:bV p=(within p.id 1 65535&&dL p.wants cI):=by unfold bV;simp[hk]
   rw[e];exact fG 132 (b 8) (dL p.wants cI) p h W (enters_of func132 (by kernel_rfl) rfl) (km.eM ey hk (by decide) (by decide)).may (fun W1 hb1=>I2 p h W1 (cd.ag hb1).lw hfw.1)
  have e:aQ p={aN 8 with id:=p.id,wants:=p.wants}:=by unfold aQ;simp[hk]
  rw[e];exact(fD 131 (b 8) p h ({aN 0 with wants:=p.wants}) ⟨h.w,bQ,bQ⟩ W (enters_of func131 (by kernel_rfl) rfl) (km.eM ey hk (by decide) (by decide)).has (fun W1=>IU p h W1)).mono fun e w' ⟨he,hb⟩=>⟨_,_,he,by rw[hk];rfl,fun W' hW=>⟨hW.lw,aW.nil W',aW.nil W'⟩,hb⟩
 ·refine⟨183,#[.pointer (some ⟨b 9+2,0,none⟩)],184,#[.pointer (some ⟨b 9+1,0,none⟩)],_,_,_,rfl,enters_of func183 (by kernel_rfl) rfl,enters_of func184 (by kernel_rfl) rfl,fun W cd ey=>?_,fun W ey=>?_⟩
  ·have e:bV p=(within p.id 1 65535&&dL p.codes cY):=by unfold bV;simp[hk]
   rw[e];exact fG 143 (b 9) (dL p.codes cY) p h W (enters_of func143 (by kernel_rfl) rfl) (km.eM ey hk (by decide) (by decide)).may (fun W1 hb1=>I3 p h W1 (cd.ag hb1).lc (fun _ _=>trivial))
  have e:aQ p={aN 9 with id:=p.id,codes:=p.codes}:=by unfold aQ;simp[hk]
  rw[e];exact(fD 142 (b 9) p h ({aN 0 with codes:=p.codes}) ⟨bQ,h.c,bQ⟩ W (enters_of func142 (by kernel_rfl) rfl) (km.eM ey hk (by decide) (by decide)).has (fun W1=>IV p h W1)).mono fun e w' ⟨he,hb⟩=>⟨_,_,he,by rw[hk];rfl,fun W' hW=>⟨aW.nil W',hW.lc,aW.nil W'⟩,hb⟩
 ·refine⟨183,#[.pointer (some ⟨b 10+2,0,none⟩)],184,#[.pointer (some ⟨b 10+1,0,none⟩)],_,_,_,rfl,enters_of func183 (by kernel_rfl) rfl,enters_of func184 (by kernel_rfl) rfl,fun W cd ey=>?_,fun W ey=>?_⟩
  ·have e:bV p=(within p.id 1 65535&&dL p.filters bU):=by unfold bV;simp[hk]
   rw[e];exact fG 151 (b 10) (dL p.filters bU) p h W (enters_of func151 (by kernel_rfl) rfl) (km.eM ey hk (by decide) (by decide)).may (fun W1 hb1=>I4 p h W1 (cd.ag hb1).lf hfw.2)
  have e:aQ p={aN 10 with id:=p.id,filters:=p.filters}:=by unfold aQ;simp[hk]
  rw[e];exact(fD 150 (b 10) p h ({aN 0 with filters:=p.filters}) ⟨bQ,bQ,h.f⟩ W (enters_of func150 (by kernel_rfl) rfl) (km.eM ey hk (by decide) (by decide)).has (fun W1=>IW p h W1)).mono fun e w' ⟨he,hb⟩=>⟨_,_,he,by rw[hk];rfl,fun W' hW=>⟨aW.nil W',aW.nil W',hW.lf⟩,hb⟩
 ·refine⟨183,#[.pointer (some ⟨b 11+2,0,none⟩)],184,#[.pointer (some ⟨b 11+1,0,none⟩)],_,_,_,rfl,enters_of func183 (by kernel_rfl) rfl,enters_of func184 (by kernel_rfl) rfl,fun W cd ey=>?_,fun W ey=>?_⟩
  ·have e:bV p=(within p.id 1 65535&&true):=by unfold bV;simp[hk]
   rw[e];exact fG 212 (b 11) (true) p h W (enters_of func212 (by kernel_rfl) rfl) (km.eM ey hk (by decide) (by decide)).may (fun W1 _=>lG _ W1)
  have e:aQ p={aN 11 with id:=p.id}:=by unfold aQ;simp[hk]
  rw[e];exact(fD 211 (b 11) p h ((aN 0)) bo W (enters_of func211 (by kernel_rfl) rfl) (km.eM ey hk (by decide) (by decide)).has (fun W1=>lI p h W1)).mono fun e w' ⟨he,hb⟩=>⟨_,_,he,by rw[hk];rfl,fun W' hW=>In.z W' _ ⟨rfl,rfl,rfl⟩,hb⟩
 ·refine⟨120,#[],121,#[],_,_,_,rfl,enters_of func120 (by kernel_rfl) rfl,enters_of func121 (by kernel_rfl) rfl,fun W cd ey=>?_,fun W ey=>?_⟩
  ·have e:bV p=true:=by unfold bV;simp[hk]
   rw[e];exact rQ _ W
  have e:aQ p=aN 12:=by unfold aQ;simp[hk]
  rw[e];exact(rS p h W).mono fun e w' ⟨he,hb⟩=>⟨_,_,he,by rw[hk];rfl,fun W' hW=>In.z W' _ ⟨rfl,rfl,rfl⟩,hb⟩
 ·refine⟨120,#[],121,#[],_,_,_,rfl,enters_of func120 (by kernel_rfl) rfl,enters_of func121 (by kernel_rfl) rfl,fun W cd ey=>?_,fun W ey=>?_⟩
  ·have e:bV p=true:=by unfold bV;simp[hk]
   rw[e];exact rQ _ W
  have e:aQ p=aN 13:=by unfold aQ;simp[hk]
  rw[e];exact(rS p h W).mono fun e w' ⟨he,hb⟩=>⟨_,_,he,by rw[hk];rfl,fun W' hW=>In.z W' _ ⟨rfl,rfl,rfl⟩,hb⟩
 skip;refine⟨120,#[],121,#[],_,_,_,rfl,enters_of func120 (by kernel_rfl) rfl,enters_of func121 (by kernel_rfl) rfl,fun W cd ey=>?_,fun W ey=>?_⟩
 ·have e:bV p=true:=by unfold bV;simp[hk]
  rw[e];exact rQ _ W
 have e:aQ p=aN 14:=by unfold aQ;simp[hk]
 rw[e];exact(rS p h W).mono fun e w' ⟨he,hb⟩=>⟨_,_,he,by rw[hk];rfl,fun W' hW=>In.z W' _ ⟨rfl,rfl,rfl⟩,hb⟩
def T7(b:Nat->Nat)(p:Pk)(h:H3)(g:Value):Prop:=(g=.nilFunc/\cE p=0)\/∃f c,g=bG f c/\gY f/\∀W,km b p.kind.toNat W->Calls prog f (#[.agg (p.cells h).toArray]++c) W fun e w'=>e=.returned (.int .i64 (cE p))/\Below W.heap.size W w'
def acn(b:Nat->Nat)(p:Pk)(h:H3)(m:List UInt8)(g:Value):Prop:=(g=.nilFunc/\m=[])\/∃f c,g=bG f c/\gY f/\∀W F q,km b p.kind.toNat W->p.In W h->Wr W F q []->(∀k:Nat,4<=k->k<=11->b k+3∉F)->vE W p h F->Calls prog f (#[.pointer (some ⟨q,0,none⟩),.agg (p.cells h).toArray]++c) W (lJ F q [] m W)
theorem eC{p:Pk}(h:aZ p)(hk:p.kind≠3):p.body=[]:=by
 rw[<-h.2];unfold aQ;rw[if_neg hk]
 repeat' split
 all_goals rfl
theorem fU{p:Pk}(h3:p.kind≠3)(h:p.kind≠6/\p.kind≠8/\p.kind≠10):cE p=0:=by unfold cE;rw[if_neg h3,if_neg (by omega)]
theorem vI{p:Pk}(h:p.kind=6\/p.kind=8\/p.kind=10):cE p=2:=by unfold cE;rw[if_neg (by omega),if_pos h]
theorem cU(fl:Int)(b:Nat)(v:Array Value)(W:World)(hb:Boxed W b 3 (.int .i64 fl)):Calls prog 185 #[.agg v,.pointer (some ⟨b,0,none⟩)] W fun e w'=>e=.returned (.int .i64 fl)/\Below W.heap.size W w':=by
 have b0:Below W.heap.size W (W.alloc (.cells v 52)):=ai.alloc ah _;have k0:=(aF hb b0).cell;have B0:=af b0;clear hb b0;go_enter func185,ntmps185;go_wp2_with fail
 go_ret;exact⟨rfl,B0.out⟩
theorem od{p:Pk}(h:aZ p)(hk:p.kind=8):p.wants.length<=1000/\∀x∈p.wants,x.filter.length<=65535/\0<=x.qos/\x.qos<256:=by have h1:=h.1;unfold bV at h1;rw[if_neg (by omega),if_neg (by omega),if_neg (by omega),if_pos hk,Bool.and_eq_true]at h1;refine⟨by have:=h1.2;unfold dL at this;simp at this;omega,fun x hx=>?_⟩;have h2:=fA h1.2 x hx;unfold cI at h2;rw[Bool.and_eq_true]at h2;have a:=gA h2.1;have c:=within_iff.1 h2.2;omega
theorem og{p:Pk}(h:aZ p)(hk:p.kind=9):p.codes.length<=1000/\∀x∈p.codes,0<=x/\x<256:=by
 have h1:=h.1;unfold bV at h1;rw[if_neg (by omega),if_neg (by omega),if_neg (by omega),if_neg (by omega),if_pos hk,Bool.and_eq_true]at h1;refine⟨by have:=h1.2;unfold dL at this;simp at this;omega,fun x hx=>?_⟩;have h2:=fA h1.2 x hx;unfold cY at h2;rw[Bool.or_eq_true]at h2;rcases h2 with h2 | h2
 ·have c:=within_iff.1 h2;omega
 have:=of_decide_eq_true h2;omega
theorem qP{p:Pk}(h:aZ p)(hk:p.kind=10):p.filters.length<=1000/\∀x∈p.filters,x.length<=65535:=by have h1:=h.1;unfold bV at h1;rw[if_neg (by omega),if_neg (by omega),if_neg (by omega),if_neg (by omega),if_neg (by omega),if_pos hk,Bool.and_eq_true]at h1;refine⟨by have:=h1.2;unfold dL at this;simp at this;omega,fun x hx=>?_⟩;have a:=gA (fA h1.2 x hx);omega
theorem mr{p:Pk}(h:aZ p)(hk:4<=p.kind/\p.kind<=11):1<=p.id/\p.id<=65535:=by
 have h1:=h.1;unfold bV at h1;rw[if_neg (by omega),if_neg (by omega),if_neg (by omega)]at h1;have hw:within p.id 1 65535=true:=by
  repeat' split at h1
  all_goals first
   | exact h1
   | (rw[Bool.and_eq_true]at h1;exact h1.1)
   | omega
 exact within_iff.1 hw
theorem XW(b:Nat->Nat)(p:Pk)(h:H3)(hr:aZ p)(k:Nat)(hk:p.kind=(k:Int))(gW:1<=k/\k<=14):∃g1 g2 g3 g4 g5 m,dg b k=.agg #[g1,g2,g3,g4,g5]/\T7 b p h g3/\acn b p h m g4/\bj p=m++p.body:=by
 have hbl:=eU hr;have hm:=hr.1;have:k=1\/k=2\/k=3\/k=4\/k=5\/k=6\/k=7\/k=8\/k=9\/k=10\/k=11\/k=12\/k=13\/k=14:=by omega
 rcases this with rfl | rfl | rfl | rfl | rfl | rfl | rfl | rfl | rfl | rfl | rfl | rfl | rfl | rfl
 ·have hc:oo p=true:=by rw[<-hm];unfold bV;rw[if_pos (show p.kind=1 from hk)]
  obtain⟨a1,a2,a3,a4,a5⟩:=iG hc;have hq:0<=p.will.qos/\p.will.qos<=2:=by
   rcases a3 with⟨-,e⟩ | ⟨-, -, -,e⟩
   ·rw[e];exact⟨by decide,by decide⟩
   exact e
  have zr:dT p<256:=by have:=(qu p.hasUser p.hasPass p.will.retain p.hasWill p.clean p.will.qos.toNat (by omega)).2.2.2.2.2.2;exact this
  have jy:=dU a1;have hx:∀x∈jV p,x.2.length<=65535:=by
   have t1:p.will.topic.length<=65535:=by
    rcases a3 with⟨-,e⟩ | ⟨-,e, -⟩
    ·rw[e];decide
    have:=ez e;omega
   have t2:p.will.body.length<=65535:=by
    rcases a3 with⟨-,e⟩ | ⟨-, -,e, -⟩
    ·rw[e];decide
    omega
   have t3:p.user.length<=65535:=by
    rcases a4 with⟨-,e⟩ | ⟨-,e⟩
    ·have:=dU e;omega
    rw[e];decide
   have t4:p.pass.length<=65535:=by
    rcases a5 with⟨-,e⟩ | ⟨-,e⟩
    ·omega
    rw[e];decide
   intro x hx;simp only[jV,List.mem_cons,List.not_mem_nil,or_false]at hx;rcases hx with rfl | rfl | rfl | rfl<;>assumption
  have hbo:=Mq p hk;refine⟨_,_,_,_,_,oO p++(jV p).flatMap iC,rfl,.inl ⟨rfl,fU (by omega) (by omega)⟩,.inr ⟨201,#[],rfl,enters_of func201 (by kernel_rfl) rfl,fun W F q ey cd hW lC hN=>?_⟩,by rw[hbo,eC hr (by omega),List.append_nil]⟩;exact Bo p h hW zr (by omega) (by omega) (by omega) hx (by rw[hbo,List.length_append]at hbl;simp only[List.length_nil];omega)
 ·have hc:uY p=true:=by rw[<-hm];unfold bV;rw[if_neg (by omega),if_pos (show p.kind=2 from hk)]
  have hcd:0<=p.code/\p.code<=5:=by unfold uY at hc;rw[Bool.and_eq_true]at hc;exact within_iff.1 hc.1
  refine⟨_,_,_,_,_,ay 1 (aY p.present 1)++ay 1 p.code.toNat,rfl,.inl ⟨rfl,fU (by omega) (by omega)⟩,.inr ⟨126,#[],rfl,enters_of func126 (by kernel_rfl) rfl,fun W F q ey cd hW lC hN=>?_⟩,by rw[qx hk,eC hr (by omega),List.append_nil]⟩;exact Bg p h hW (by omega) (by decide)
 ·have hc:fy p=true:=by rw[<-hm];unfold bV;rw[if_neg (by omega),if_neg (by omega),if_pos (show p.kind=3 from hk)]
  unfold fy at hc;rw[Bool.and_eq_true,Bool.and_eq_true,Bool.and_eq_true]at hc;have hq:=within_iff.1 hc.1.2;have ht:=ez hc.1.1.1;have hi:0<p.qos->0<=p.id/\p.id<65536:=fun h0=>by
   have h9:=hc.2;rw[Bool.or_eq_true]at h9;rcases h9 with h9 | h9
   ·rw[Bool.and_eq_true,Bool.and_eq_true]at h9;have:=of_decide_eq_true h9.1.1;omega
   rw[Bool.and_eq_true]at h9;have:=within_iff.1 h9.2;omega
  refine⟨_,_,_,_,_,aI p.topic++(if 0<p.qos then ay 2 p.id.toNat else[]),rfl,.inr ⟨206,#[],rfl,enters_of func206 (by kernel_rfl) rfl,fun W _=>sR p h W hk (by omega)⟩,.inr ⟨208,#[],rfl,enters_of func208 (by kernel_rfl) rfl,fun W F q ey cd hW lC hN=>?_⟩,by rw[tI hk,List.append_assoc]⟩;exact Bh p h hW (by omega) hi (by simp only[List.length_nil];omega)
 ·refine⟨_,_,_,_,_,(ay 2 p.id.toNat++[]),rfl,.inr ⟨185,#[.pointer (some ⟨b 4,0,none⟩)],rfl,enters_of func185 (by kernel_rfl) rfl,fun W ey=>?_⟩,.inr ⟨186,#[.pointer (some ⟨b 4+3,0,none⟩)],rfl,enters_of func186 (by kernel_rfl) rfl,fun W F q ey cd hW lC hN=>?_⟩,?_⟩
  ·refine(cU 0 (b 4) _ W (km.eM ey hk (by decide) (by decide)).fl).mono fun e w' ⟨he,hb⟩=>⟨?_,hb⟩;rw[he,fU (by omega) (by omega)];rfl
  ·have af:=mr hr (by omega);exact dY 213 (b 4) [] p h (enters_of func213 (by kernel_rfl) rfl) hW (km.eM ey hk (by decide) (by decide)).wr (lC 4 (by decide) (by decide)) (by omega) (by decide) (fun W1 F1 hs1 hW1=>iZ _ hW1)
  rw[kA (by omega) (by omega) (by omega) (by omega),eC hr (by omega)];simp
 ·refine⟨_,_,_,_,_,(ay 2 p.id.toNat++[]),rfl,.inr ⟨185,#[.pointer (some ⟨b 5,0,none⟩)],rfl,enters_of func185 (by kernel_rfl) rfl,fun W ey=>?_⟩,.inr ⟨186,#[.pointer (some ⟨b 5+3,0,none⟩)],rfl,enters_of func186 (by kernel_rfl) rfl,fun W F q ey cd hW lC hN=>?_⟩,?_⟩
  ·refine(cU 0 (b 5) _ W (km.eM ey hk (by decide) (by decide)).fl).mono fun e w' ⟨he,hb⟩=>⟨?_,hb⟩;rw[he,fU (by omega) (by omega)];rfl
  ·have af:=mr hr (by omega);exact dY 213 (b 5) [] p h (enters_of func213 (by kernel_rfl) rfl) hW (km.eM ey hk (by decide) (by decide)).wr (lC 5 (by decide) (by decide)) (by omega) (by decide) (fun W1 F1 hs1 hW1=>iZ _ hW1)
  rw[kA (by omega) (by omega) (by omega) (by omega),eC hr (by omega)];simp
 ·refine⟨_,_,_,_,_,(ay 2 p.id.toNat++[]),rfl,.inr ⟨185,#[.pointer (some ⟨b 6,0,none⟩)],rfl,enters_of func185 (by kernel_rfl) rfl,fun W ey=>?_⟩,.inr ⟨186,#[.pointer (some ⟨b 6+3,0,none⟩)],rfl,enters_of func186 (by kernel_rfl) rfl,fun W F q ey cd hW lC hN=>?_⟩,?_⟩
  ·refine(cU 2 (b 6) _ W (km.eM ey hk (by decide) (by decide)).fl).mono fun e w' ⟨he,hb⟩=>⟨?_,hb⟩;rw[he,vI (by omega)];rfl
  ·have af:=mr hr (by omega);exact dY 213 (b 6) [] p h (enters_of func213 (by kernel_rfl) rfl) hW (km.eM ey hk (by decide) (by decide)).wr (lC 6 (by decide) (by decide)) (by omega) (by decide) (fun W1 F1 hs1 hW1=>iZ _ hW1)
  rw[kA (by omega) (by omega) (by omega) (by omega),eC hr (by omega)];simp
 ·refine⟨_,_,_,_,_,(ay 2 p.id.toNat++[]),rfl,.inr ⟨185,#[.pointer (some ⟨b 7,0,none⟩)],rfl,enters_of func185 (by kernel_rfl) rfl,fun W ey=>?_⟩,.inr ⟨186,#[.pointer (some ⟨b 7+3,0,none⟩)],rfl,enters_of func186 (by kernel_rfl) rfl,fun W F q ey cd hW lC hN=>?_⟩,?_⟩
  ·refine(cU 0 (b 7) _ W (km.eM ey hk (by decide) (by decide)).fl).mono fun e w' ⟨he,hb⟩=>⟨?_,hb⟩;rw[he,fU (by omega) (by omega)];rfl
  ·have af:=mr hr (by omega);exact dY 213 (b 7) [] p h (enters_of func213 (by kernel_rfl) rfl) hW (km.eM ey hk (by decide) (by decide)).wr (lC 7 (by decide) (by decide)) (by omega) (by decide) (fun W1 F1 hs1 hW1=>iZ _ hW1)
  rw[kA (by omega) (by omega) (by omega) (by omega),eC hr (by omega)];simp
 ·refine⟨_,_,_,_,_,(ay 2 p.id.toNat++(p.wants.flatMap cF)),rfl,.inr ⟨185,#[.pointer (some ⟨b 8,0,none⟩)],rfl,enters_of func185 (by kernel_rfl) rfl,fun W ey=>?_⟩,.inr ⟨186,#[.pointer (some ⟨b 8+3,0,none⟩)],rfl,enters_of func186 (by kernel_rfl) rfl,fun W F q ey cd hW lC hN=>?_⟩,?_⟩
  ·refine(cU 2 (b 8) _ W (km.eM ey hk (by decide) (by decide)).fl).mono fun e w' ⟨he,hb⟩=>⟨?_,hb⟩;rw[he,vI (by omega)];rfl
  ·have af:=mr hr (by omega);exact dY 137 (b 8) (p.wants.flatMap cF) p h (enters_of func137 (by kernel_rfl) rfl) hW (km.eM ey hk (by decide) (by decide)).wr (lC 8 (by decide) (by decide)) (by omega) (by decide) (fun W1 F1 hs1 hW1=>Bk p h hW1 (hN.step hs1.wrote (fun c hc=>.inl hc) hs1.sub).lw (od hr hk).1 (od hr hk).2 (by have h9:=hbl;rw[qy hk]at h9;rw[List.length_append]at h9 ⊢;simp only[List.length_nil];omega))
  rw[qy hk,eC hr (by omega)];simp
 ·refine⟨_,_,_,_,_,(ay 2 p.id.toNat++(p.codes.flatMap fun c=>ay 1 c.toNat)),rfl,.inr ⟨185,#[.pointer (some ⟨b 9,0,none⟩)],rfl,enters_of func185 (by kernel_rfl) rfl,fun W ey=>?_⟩,.inr ⟨186,#[.pointer (some ⟨b 9+3,0,none⟩)],rfl,enters_of func186 (by kernel_rfl) rfl,fun W F q ey cd hW lC hN=>?_⟩,?_⟩
  ·refine(cU 0 (b 9) _ W (km.eM ey hk (by decide) (by decide)).fl).mono fun e w' ⟨he,hb⟩=>⟨?_,hb⟩;rw[he,fU (by omega) (by omega)];rfl
  ·have af:=mr hr (by omega);exact dY 146 (b 9) (p.codes.flatMap fun c=>ay 1 c.toNat) p h (enters_of func146 (by kernel_rfl) rfl) hW (km.eM ey hk (by decide) (by decide)).wr (lC 9 (by decide) (by decide)) (by omega) (by decide) (fun W1 F1 hs1 hW1=>Bj p h hW1 (hN.step hs1.wrote (fun c hc=>.inl hc) hs1.sub).lc (og hr hk).1 (og hr hk).2 (by have h9:=hbl;rw[qA hk]at h9;rw[List.length_append]at h9 ⊢;simp only[List.length_nil];omega))
  rw[qA hk,eC hr (by omega)];simp
 ·refine⟨_,_,_,_,_,(ay 2 p.id.toNat++(p.filters.flatMap aI)),rfl,.inr ⟨185,#[.pointer (some ⟨b 10,0,none⟩)],rfl,enters_of func185 (by kernel_rfl) rfl,fun W ey=>?_⟩,.inr ⟨186,#[.pointer (some ⟨b 10+3,0,none⟩)],rfl,enters_of func186 (by kernel_rfl) rfl,fun W F q ey cd hW lC hN=>?_⟩,?_⟩
  ·refine(cU 2 (b 10) _ W (km.eM ey hk (by decide) (by decide)).fl).mono fun e w' ⟨he,hb⟩=>⟨?_,hb⟩;rw[he,vI (by omega)];rfl
  ·have af:=mr hr (by omega);exact dY 153 (b 10) (p.filters.flatMap aI) p h (enters_of func153 (by kernel_rfl) rfl) hW (km.eM ey hk (by decide) (by decide)).wr (lC 10 (by decide) (by decide)) (by omega) (by decide) (fun W1 F1 hs1 hW1=>Bi p h hW1 (hN.step hs1.wrote (fun c hc=>.inl hc) hs1.sub).lf (qP hr hk).1 (qP hr hk).2 (by have h9:=hbl;rw[na hk]at h9;rw[List.length_append]at h9 ⊢;simp only[List.length_nil];omega))
  rw[na hk,eC hr (by omega)];simp
 ·refine⟨_,_,_,_,_,(ay 2 p.id.toNat++[]),rfl,.inr ⟨185,#[.pointer (some ⟨b 11,0,none⟩)],rfl,enters_of func185 (by kernel_rfl) rfl,fun W ey=>?_⟩,.inr ⟨186,#[.pointer (some ⟨b 11+3,0,none⟩)],rfl,enters_of func186 (by kernel_rfl) rfl,fun W F q ey cd hW lC hN=>?_⟩,?_⟩
  ·refine(cU 0 (b 11) _ W (km.eM ey hk (by decide) (by decide)).fl).mono fun e w' ⟨he,hb⟩=>⟨?_,hb⟩;rw[he,fU (by omega) (by omega)];rfl
  ·have af:=mr hr (by omega);exact dY 213 (b 11) [] p h (enters_of func213 (by kernel_rfl) rfl) hW (km.eM ey hk (by decide) (by decide)).wr (lC 11 (by decide) (by decide)) (by omega) (by decide) (fun W1 F1 hs1 hW1=>iZ _ hW1)
  rw[kA (by omega) (by omega) (by omega) (by omega),eC hr (by omega)];simp
 ·exact⟨_,_,_,_,_,[],rfl,.inl ⟨rfl,fU (by omega) (by omega)⟩,.inl ⟨rfl,rfl⟩,by rw[kB (by omega) (by omega) (by omega) (by omega) (by omega) (by omega) (by omega),eC hr (by omega)];rfl⟩
 ·exact⟨_,_,_,_,_,[],rfl,.inl ⟨rfl,fU (by omega) (by omega)⟩,.inl ⟨rfl,rfl⟩,by rw[kB (by omega) (by omega) (by omega) (by omega) (by omega) (by omega) (by omega),eC hr (by omega)];rfl⟩
 exact⟨_,_,_,_,_,[],rfl,.inl ⟨rfl,fU (by omega) (by omega)⟩,.inl ⟨rfl,rfl⟩,by rw[kB (by omega) (by omega) (by omega) (by omega) (by omega) (by omega) (by omega),eC hr (by omega)];rfl⟩
def xN:Array Value:=#[.nilFunc,.nilFunc,.nilFunc,.nilFunc,.nilFunc]
theorem qQ{w:World}{m:Nat}{b:Nat->Nat}(h:IM .i64 w m (cS b))(k:Int)(c:Bool):(Instr.lookup 152 (.map (some m)) (.int .i64 k) c).run prog w=.ok (if c then .tuple #[(cS b k).getD (.agg xN),.bool (cS b k).isSome]else(cS b k).getD (.agg xN)) w:=
 ed 152 45 150 underlying152 underlying45 h (.agg xN) (by kernel_rfl) k c
theorem jW(b:Nat->Nat)(k:Int):∃g1 g2 g3 g4 g5,(cS b k).getD (.agg xN)=.agg #[g1,g2,g3,g4,g5]/\(∀v∈#[g1,g2,g3,g4,g5].toList,v.oneCell'=true)/\((cS b k).isSome=true->cS b k=some (.agg #[g1,g2,g3,g4,g5])):=by
 unfold cS;split
 ·rename_i h;have:k=1\/k=2\/k=3\/k=4\/k=5\/k=6\/k=7\/k=8\/k=9\/k=10\/k=11\/k=12\/k=13\/k=14:=by omega
  rcases this with rfl | rfl | rfl | rfl | rfl | rfl | rfl | rfl | rfl | rfl | rfl | rfl | rfl | rfl
  all_goals exact⟨_,_,_,_,_,rfl,by simp[bG,lA,Value.oneCell'],fun _=>rfl⟩
 exact⟨_,_,_,_,_,rfl,by simp[Value.oneCell'],by simp⟩
theorem nG{b:Nat->Nat}{k:Int}(h:cS b k=none):¬(1<=k/\k<=14):=fun h'=>by unfold cS at h;rw[if_pos h']at h;cases h
theorem nH{b:Nat->Nat}{k:Int}{v:Value}(h:cS b k=some v):∃n:Nat,k=n/\(1<=n/\n<=14)/\dg b n=v:=by
 unfold cS at h;split at h
 ·rename_i h';exact⟨k.toNat,by omega,by omega,by cases h;rfl⟩
 cases h
structure I6 (w:World)(pc:Array Value)(p:Pk)(kb:Nat)(g1 g2 g3 g4 g5:Value)(is:Bool)(W:World):Prop where
 ag:Below w.heap.size w W
 pack:ar W w.heap.size pc 52
 kind:ar W kb #[g1,g2,g3,g4,g5] 150
 none:is=false->¬(1<=p.kind/\p.kind<=14)
 some:is=true->∃b,cS b p.kind=some (.agg #[g1,g2,g3,g4,g5])/\∀k,4<=k->k<=11->kQ b k W
theorem vJ(p:Pk)(h:H3)(hs:yT p)(hfw:(∀x∈p.wants,x.filter.length<=2000000)/\∀x∈p.filters,x.length<=2000000):tP p h:=fun w cd=>by
 obtain⟨pc,bt⟩:=ae ((p.cells h).toArray);obtain⟨W0,hW0⟩:=ae (w.alloc (.cells pc 52));have hb0:Hid (Below w.heap.size w W0):=af (by rw[<-hW0];exact ai.alloc ah _);have P0:Hid (ar W0 w.heap.size pc 52):=af (by rw[<-hW0];exact ar.new _ _ _);have ic:Hid ((prog.info? 52).map (·.size)=some pc.size):=af (by rw[<-bt];exact(by kernel_rfl:(prog.info? 52).map (·.size)=some 24));obtain⟨kd,dP⟩:=ae p.kind;have kc:Hid (∀W,ar W w.heap.size pc 52->W.cell? ⟨w.heap.size,0,none⟩=some (.int .i64 kd)):=af fun W hb=>by rw[hb.cell,<-bt,<-dP];rfl
 have dP:=af dP;rw[bt];have bt:=af bt;have HI:=af cd;obtain⟨Q,hQ⟩:=ae (aZ p:Prop);rw[hQ];have hQ:=af hQ;have DO:=af (fun b k hk gW=>XV b p h hs hfw k hk gW);clear cd hs hfw;go_enter func51,ntmps51;go_upto_region 1 with fail
 clear hW0;try simp only[PT]
 go_cut [3,4]from 5 (fun s3 s4 wx=>∃(kb:Nat)(g1 g2 g3 g4 g5:Value)(is:Bool),s3=.pointer (some ⟨kb,0,none⟩)/\s4=.bool is/\Hid (I6 w pc p kb g1 g2 g3 g4 g5 is wx))
 case first=>
  have vt:Below w.heap.size w W0.drew:=hb0.drew;have rM:ar W0.drew w.heap.size pc 52:=P0.out;refine aH [(1000,fun w'=>ar w' w.heap.size pc 52)] (by kernel_rfl) ⟨rM,trivial⟩ fun KQ aL=>?_;try simp only[PT]
  obtain⟨W5,Sv⟩:=ae W0.drew;rw[Sv]at vt rM ⊢;refine tQ [1] ?_;refine aG 2 rfl (by kernel_rfl) (by kernel_rfl) rfl rfl 0 rfl (by kernel_rfl) (.int .i64 kd) (fun w' hf=>by(have k0:=kc _ hf;go_simp<;>with_reducible rfl)) ?_;simp only[PT];refine dM [0,7] (fun j hj=>?_);have hj:j=0\/j=7:=by simpa using hj
  rcases hj with rfl | rfl
  ·refine⟨⟨_,rfl,by kernel_rfl,fun K hK=>?_⟩⟩;go_simp;refine(lD _).mono ?_;rintro e w6 ⟨m,b,rfl,⟨hm,hc⟩,fj⟩;have mI:=rM.ag fj;obtain⟨g1,g2,g3,g4,g5,hg,aV,hsome⟩:=jW b kd;have rN:=vt.trans (fj.mono vt.size);refine hK _ _ ⟨⟨fun _=>mI,trivial⟩,?_⟩;clear hK K;try simp only[PT]
   refine fS [(1000,fun w'=>ar w' w.heap.size pc 52),(1000,fun w'=>IM .i64 w' m (cS b))] (by simp) ⟨fun _=>mI,fun _=>hm,trivial⟩ ?_;refine gM 3 rfl (by kernel_rfl) (by kernel_rfl) rfl rfl rfl 1 rfl (by kernel_rfl) (.tuple #[.agg #[g1,g2,g3,g4,g5],.bool (cS b kd).isSome]) (fun w' hf=>(qQ hf kd true).trans (by rw[hg];rfl)) ?_;try simp only[PT]
   refine tQ [4,5,6] ?_;obtain⟨is,kO⟩:=ae ((cS b kd).isSome);rw[kO];refine sQ 7 fun K hK=>?_;simp only[GO];go_simp;refine hK _ _ ⟨⟨fun _=>mI.alloc _,fun _=>hm.alloc _,trivial⟩,?_⟩;clear hK K;try simp only[PT]
   refine sQ 8 fun K hK=>?_;simp only[GO];refine wW 150 5 rfl w6.heap.size xN #[g1,g2,g3,g4,g5] rfl rfl (ar.new _ _ _) rfl rfl aV fun w7 gZ gD=>?_;replace gD:ak [w6.heap.size] (w6.alloc (.cells xN 150)) w7:=gD;have zl:=rN.size;have Sw:(w6.alloc (.cells xN 150)).heap.size=w6.heap.size+1:=by simp
   have Pq:Below w6.heap.size w6 w7:=(ai.alloc ah _).trans (gD.ag (by simp) (by simp));have ou:=rN.trans (Pq.mono rN.size);have vu:=mI.ag Pq;have DM:=hm.ag Pq;refine hK _ _ ⟨⟨fun _=>vu,fun _=>DM,trivial⟩,?_⟩;clear hK K;try simp only[PT]
   refine tQ [9] ?_;refine dQ (aL.out _ _ ?_);clear aL KQ;have hR:=af (show I6 w pc p w6.heap.size g1 g2 g3 g4 g5 is w7 from⟨ou,vu,gZ,fun h=>nG (b:=b) (by rw[dP.out];rw[<-kO]at h;exact Option.isSome_eq_false_iff.1 h |>Option.isNone_iff_eq_none.1),fun h=>⟨b,by rw[dP.out];exact hsome (by rw[kO,h]),fun k h4 h11=>oM.ag (hc k h4 h11) Pq⟩⟩);go_wp2;go_meet
   case rel=>exact⟨_,_,_,_,_,_,_,rfl,rfl,hR⟩
  refine⟨⟨_,rfl,by kernel_rfl,fun K hK=>?_⟩⟩;go_simp;refine hK _ _ ⟨⟨fun _=>rM.alloc _,trivial⟩,?_⟩;clear hK K;try simp only[PT]
  refine sQ 0 fun K hK=>?_;simp only[GO];go_simp;refine(lD _).mono ?_;rintro e w6 ⟨m,b,rfl,⟨hm,hc⟩,fj⟩;have mI:=(rM.alloc (.cells xN 150)).ag fj;have DN:=(ar.new W5 xN 150).ag fj;obtain⟨g1,g2,g3,g4,g5,hg,aV,hsome⟩:=jW b kd;have hs5:=vt.size;have FC:(W5.alloc (.cells xN 150)).heap.size=W5.heap.size+1:=by simp
  have rN:=(vt.alloc hs5 (.cells xN 150)).trans (fj.mono (by simp;omega));have Sx:W5.heap.size+1<=w6.heap.size:=by have:=fj.size;simpa using this
  refine hK _ _ ⟨⟨fun _=>mI,trivial⟩,?_⟩;clear hK K;try simp only[PT]
  refine fS [(1000,fun w'=>ar w' w.heap.size pc 52),(1000,fun w'=>IM .i64 w' m (cS b))] (by simp) ⟨fun _=>mI,fun _=>hm,trivial⟩ ?_;refine gM 3 rfl (by kernel_rfl) (by kernel_rfl) rfl rfl rfl 1 rfl (by kernel_rfl) (.tuple #[.agg #[g1,g2,g3,g4,g5],.bool (cS b kd).isSome]) (fun w' hf=>(qQ hf kd true).trans (by rw[hg];rfl)) ?_;try simp only[PT]
  refine tQ [4,5,6] ?_;obtain⟨is,kO⟩:=ae ((cS b kd).isSome);rw[kO];refine sQ 8 fun K hK=>?_;simp only[GO];have hne:m≠W5.heap.size:=fun h=>by obtain⟨es,cl,h1, -⟩:=hm;have h2:w6.heap[W5.heap.size]?=_:=DN;rw[h,h2]at h1;cases h1
  have sZ:∀(T:TypeId)(v:Value)(x:Nat),Boxed w6 x T v->x≠W5.heap.size:=fun T v x hx h=>by have h1:w6.heap[x]?=_:=hx;have h2:w6.heap[W5.heap.size]?=_:=DN;rw[h,h2]at h1;cases h1
  refine wW 150 5 rfl W5.heap.size xN #[g1,g2,g3,g4,g5] rfl rfl DN rfl rfl aV fun w7 gZ gD=>?_;have ou:=rN.trans (gD.ag (by have:=rN.size;omega) (by simp;omega));have vu:=mI.aw gD (by have:=rM.lt;simp;omega);have DM:=hm.wrote gD (by simpa using hne);refine hK _ _ ⟨⟨fun _=>vu,fun _=>DM,trivial⟩,?_⟩;clear hK K;try simp only[PT]
  refine tQ [9] ?_;refine dQ (aL.out _ _ ?_);clear aL KQ;have hR:=af (show I6 w pc p W5.heap.size g1 g2 g3 g4 g5 is w7 from⟨ou,vu,gZ,fun h=>nG (b:=b) (by rw[dP.out];rw[<-kO]at h;exact Option.isSome_eq_false_iff.1 h |>Option.isNone_iff_eq_none.1),fun h=>⟨b,by rw[dP.out];exact hsome (by rw[kO,h]),fun k h4 h11=>by have x:=hc k h4 h11;exact oM.wrote x gD (by simpa using sZ _ _ _ x.fl) (by simpa using sZ _ _ _ x.has) (by simpa using sZ _ _ _ x.may) (by simpa using sZ _ _ _ x.wr) (by simpa using sZ _ _ _ x.rd)⟩⟩)
  go_wp2;go_meet
  case rel=>exact⟨_,_,_,_,_,_,_,rfl,rfl,hR⟩
 case rest=>
  obtain⟨kb,g1,g2,g3,g4,g5,is,rfl,rfl,hK⟩:=hcut;cases is with
  |false=>have hno:Hid (¬Q):=af (by rw[<-hQ.out];exact fun h=>hK.out.none rfl (dH h));have HB:=af hK.out.ag;clear hK;go_wp2_with fail;go_ret;exact⟨2,rfl,iff_of_false (by decide) hno.out,HB.out⟩
  | true=>
   obtain⟨b,La,hL⟩:=hK.out.some rfl;obtain⟨n,hn,pQ,hv⟩:=nH La;obtain⟨f1,c1,f2,c2,ZQ,g4',g5',hv',Hx⟩:=DO b n hn pQ;rw[hv]at hv';simp only[Value.agg.injEq,Array.mk.injEq,List.cons.injEq,and_true]at hv';obtain⟨rfl,rfl,rfl,rfl,rfl⟩:=hv';have hL':km b p.kind.toNat wc:=fun h4 h11=>hL _ h4 h11;have k0:wc.cell? ⟨kb,0,none⟩=some (bG f1 c1):=hK.out.kind.cell 0;have e1:=Hx.e1;have e2:=Hx.e2;unfold gY at e1 e2;have CY:=af (Hx.may wc (HI.ag hK.out.ag) hL');rw[bt.out]at CY;have tm:=hK.out.pack;have HL:=af hL';have Hx:=af Hx;unfold bG at k0;clear La hv hL hL' hn pQ;have tok:=af trivial;go_wp2_with (clear tok;refine LG 52 rfl rfl tm underlying52 rfl ?_ ic.out);refine CY.mono ?_;rintro e w8 ⟨rfl,pU⟩;have Sz:=af (hK.out.ag.trans (pU.mono hK.out.ag.size));have Nq:=hK.out.pack.ag pU;have OI:=af (hK.out.kind.ag pU);have HL8:Hid (km b p.kind.toNat w8):=af (fun h4 h11=>oM.ag (HL h4 h11) pU);obtain⟨q,hq⟩:=ae (bV p);rw[hq];have hq:=af hq;clear pU tm k0 CY;cases q with
   |false=>
    have hno:Hid (¬Q):=af (by rw[<-hQ.out];exact fun h=>by have:=h.1;rw[hq.out]at this;cases this);go_wp2_with fail
    go_ret;exact⟨2,rfl,iff_of_false (by decide) hno.out,Sz.out⟩
   | true=>
    have k1:w8.cell? ⟨kb,1,none⟩=some (bG f2 c2):=OI.cell 1;have CZ:=af (Hx.has w8 HL8.out);rw[bt.out]at CZ;unfold bG at k1;clear hK Hx OI;have tok:=af trivial;go_wp2_with (clear tok;refine wL 52 rfl rfl Nq underlying52 ?_ rfl rfl ic.out);refine CZ.mono ?_;rintro e w9 ⟨y,hy,rfl,Qz,JA,tN⟩;have U6:=af (Sz.trans (tN.mono Sz.size));have U7:=af (Nq.ag tN);have iU:Hid ((y.cells hy).toArray.setIfInBounds 0 (.int .i64 kd)=(({y with kind:=kd}:Pk).cells hy).toArray):=af rfl;obtain⟨yc,eE⟩:=ae ((y.cells hy).toArray);have sy:Hid (yc.size=24):=af (by rw[<-eE];rfl);have oy:Hid (∀v∈yc.toList,v.oneCell'=true):=af (by rw[<-eE];exact Pk.one y hy);rw[eE]at iU ⊢;have Qz:=af Qz;have JA:=af JA;have eE:=af eE;clear tN Nq k1 CZ;go_upto_region 5 with(refine wS 52 24 rfl _ _ _ rfl rfl (ar.new _ _ _) sy.out (by rfl) oy.out ?_;intro FD jq ik);have DK:Below w9.heap.size w9 FD:=(ai.alloc ah _).trans (ik.ag (by simp) (by simp));have SC:w9.heap.size+1<=FD.heap.size:=by have:=ik.size;simp at this;omega
    have Hy:=af (U6.trans (DK.mono U6.size));have Lc:=af (U7.ag DK);have kk:=kc _ Lc.out;clear ik DK;try simp only[PT]
    go_upto_region 6 with(refine aq rfl 45 52 _ _ rfl (fun w=>by kernel_rfl) w9.heap.size 0 yc (.int .i64 kd) rfl rfl jq (by rw[sy];decide) rfl rfl ?_;intro wO fZ DR)
    rw[iU]at fZ;obtain⟨y',hy'⟩:∃y',({y with kind:=kd}:Pk)=y':=⟨_,rfl⟩;have et:y'=aQ p:=by rw[<-hy',<-dP.out];exact Qz.out
    have ei:∀W',p.In W' h->y'.In W' hy:=fun W' hh=>by rw[<-hy'];exact⟨(JA W' hh).lw,(JA W' hh).lc,(JA W' hh).lf⟩
    rw[hy']at fZ;have yH:=af (Hy.trans (DR.ag Hy.size (by have:=U6.size;simp;omega)));have Aw:=Lc.aw DR (by have:=U7.lt;simp;omega);have CS:=af (FA y' hy p h wO (ei _ (HI.ag yH.out)) (HI.ag yH.out));rw[bt.out,et]at CS;obtain⟨yd,qG⟩:=ae (((aQ p).cells hy).toArray);have iy:Hid ((prog.info? 52).map (·.size)=some yd.size):=af (by rw[<-qG];exact(by kernel_rfl:(prog.info? 52).map (·.size)=some 24));rw[et,qG]at fZ;rw[qG]at CS;clear DR jq kk ei et hy' qG;try simp only[PT]
    go_wp2_with (first
     | (refine wL 52 rfl rfl fZ underlying52 ?_ rfl rfl iy.out)
     | (refine wL 52 rfl rfl Aw underlying52 ?_ rfl rfl ic.out))
    refine CS.mono ?_;rintro e FE ⟨bb,rfl,hb',nr⟩;have Ld:=af (yH.trans (nr.mono yH.size));have hb':=af hb';clear nr Aw fZ CS;cases bb with
    |false=>
     have hno:Hid (¬Q):=af (by rw[<-hQ.out];exact fun h=>by have:=hb'.2 h.2;cases this);go_wp2_with fail
     go_ret;exact⟨2,rfl,iff_of_false (by decide) hno.out,Ld.out⟩
    |true=>
     have cq:Hid Q:=af (by rw[<-hQ.out];exact⟨hq.out,hb'.1 rfl⟩);go_wp2_with fail
     go_ret;exact⟨0,rfl,iff_of_true rfl cq.out,Ld.out⟩
def acs(b:Nat->Nat)(k:Nat)(g:Value):Prop:=∃f c,g=bG f c/\gY f/\∀W B p l fl,fl<16->km b k W->(4<=k->k<=11->b k+4≠p)->Rd W B p l->l.length<=65536->Calls prog f (#[.agg #[.pointer (some ⟨p,0,none⟩)],.int .i64 ((fl:Nat):Int)]++c) W (Vi k fl B p l W)
theorem Gf(f:Nat)(l:List UInt8):cj 8 f l=l5 l:=by unfold cj;rw[if_neg (by decide),if_neg (by decide),if_neg (by decide),if_pos rfl]
theorem Gg(f:Nat)(l:List UInt8):cj 9 f l=l6 l:=by unfold cj;rw[if_neg (by decide),if_neg (by decide),if_neg (by decide),if_neg (by decide),if_pos rfl]
theorem Ms(f:Nat)(l:List UInt8):cj 10 f l=l7 l:=by unfold cj;rw[if_neg (by decide),if_neg (by decide),if_neg (by decide),if_neg (by decide),if_neg (by decide),if_pos rfl]
theorem qR{k:Int}(h:4<=k/\k<=11)(h8:k≠8)(h9:k≠9)(h10:k≠10)(f:Nat)(l:List UInt8):cj k f l=m7 k l:=by unfold cj;rw[if_neg (by omega),if_neg (by omega),if_neg (by omega),if_neg h8,if_neg h9,if_neg h10,if_pos h]
theorem XX(b:Nat->Nat)(k:Nat)(gW:1<=k/\k<=14):∃g1 g2 g3 g4 g5,dg b k=.agg #[g1,g2,g3,g4,g5]/\acs b k g5:=by
 have:k=1\/k=2\/k=3\/k=4\/k=5\/k=6\/k=7\/k=8\/k=9\/k=10\/k=11\/k=12\/k=13\/k=14:=by omega
 rcases this with rfl | rfl | rfl | rfl | rfl | rfl | rfl | rfl | rfl | rfl | rfl | rfl | rfl | rfl
 ·exact⟨_,_,_,_,_,rfl,203,#[],rfl,enters_of func203 (by kernel_rfl) rfl,fun W B p l fl hf hs ho hR hl=>Eo fl hR⟩
 ·exact⟨_,_,_,_,_,rfl,128,#[],rfl,enters_of func128 (by kernel_rfl) rfl,fun W B p l fl hf hs ho hR hl=>Em fl hR⟩
 ·exact⟨_,_,_,_,_,rfl,209,#[],rfl,enters_of func209 (by kernel_rfl) rfl,fun W B p l fl hf hs ho hR hl=>En fl hf hR⟩
 ·refine⟨_,_,_,_,_,rfl,187,#[.pointer (some ⟨b 4+4,0,none⟩)],rfl,enters_of func187 (by kernel_rfl) rfl,fun W B p l fl hf hs ho hR hl=>?_⟩;have oN:cj ((4:Nat):Int) fl l=(aX 2 l).bind fun i=>((fun id l=>some ({aN 0 with id:=id},l)) (i.1:Int) i.2).bind fun y=>some ({y.1 with kind:=((4:Nat):Int)},y.2):=by rw[show((4:Nat):Int)=4 from rfl,qR (by decide) (by decide) (by decide) (by decide)];unfold m7;cases aX 2 l<;>rfl
  exact eH 214 (b 4) (fun id l=>some ({aN 0 with id:=id},l)) _ fl (enters_of func214 (by kernel_rfl) rfl) hR (hs (by decide) (by decide)).rd (ho (by decide) (by decide)) oN (fun W1 tb id l1 h1 h2 h3 h4=>gU W1 B p tb id l1 h1 h3)
 ·refine⟨_,_,_,_,_,rfl,187,#[.pointer (some ⟨b 5+4,0,none⟩)],rfl,enters_of func187 (by kernel_rfl) rfl,fun W B p l fl hf hs ho hR hl=>?_⟩;have oN:cj ((5:Nat):Int) fl l=(aX 2 l).bind fun i=>((fun id l=>some ({aN 0 with id:=id},l)) (i.1:Int) i.2).bind fun y=>some ({y.1 with kind:=((5:Nat):Int)},y.2):=by rw[show((5:Nat):Int)=5 from rfl,qR (by decide) (by decide) (by decide) (by decide)];unfold m7;cases aX 2 l<;>rfl
  exact eH 214 (b 5) (fun id l=>some ({aN 0 with id:=id},l)) _ fl (enters_of func214 (by kernel_rfl) rfl) hR (hs (by decide) (by decide)).rd (ho (by decide) (by decide)) oN (fun W1 tb id l1 h1 h2 h3 h4=>gU W1 B p tb id l1 h1 h3)
 ·refine⟨_,_,_,_,_,rfl,187,#[.pointer (some ⟨b 6+4,0,none⟩)],rfl,enters_of func187 (by kernel_rfl) rfl,fun W B p l fl hf hs ho hR hl=>?_⟩;have oN:cj ((6:Nat):Int) fl l=(aX 2 l).bind fun i=>((fun id l=>some ({aN 0 with id:=id},l)) (i.1:Int) i.2).bind fun y=>some ({y.1 with kind:=((6:Nat):Int)},y.2):=by rw[show((6:Nat):Int)=6 from rfl,qR (by decide) (by decide) (by decide) (by decide)];unfold m7;cases aX 2 l<;>rfl
  exact eH 214 (b 6) (fun id l=>some ({aN 0 with id:=id},l)) _ fl (enters_of func214 (by kernel_rfl) rfl) hR (hs (by decide) (by decide)).rd (ho (by decide) (by decide)) oN (fun W1 tb id l1 h1 h2 h3 h4=>gU W1 B p tb id l1 h1 h3)
 ·refine⟨_,_,_,_,_,rfl,187,#[.pointer (some ⟨b 7+4,0,none⟩)],rfl,enters_of func187 (by kernel_rfl) rfl,fun W B p l fl hf hs ho hR hl=>?_⟩;have oN:cj ((7:Nat):Int) fl l=(aX 2 l).bind fun i=>((fun id l=>some ({aN 0 with id:=id},l)) (i.1:Int) i.2).bind fun y=>some ({y.1 with kind:=((7:Nat):Int)},y.2):=by rw[show((7:Nat):Int)=7 from rfl,qR (by decide) (by decide) (by decide) (by decide)];unfold m7;cases aX 2 l<;>rfl
  exact eH 214 (b 7) (fun id l=>some ({aN 0 with id:=id},l)) _ fl (enters_of func214 (by kernel_rfl) rfl) hR (hs (by decide) (by decide)).rd (ho (by decide) (by decide)) oN (fun W1 tb id l1 h1 h2 h3 h4=>gU W1 B p tb id l1 h1 h3)
 ·refine⟨_,_,_,_,_,rfl,187,#[.pointer (some ⟨b 8+4,0,none⟩)],rfl,enters_of func187 (by kernel_rfl) rfl,fun W B p l fl hf hs ho hR hl=>?_⟩;have oN:cj ((8:Nat):Int) fl l=(aX 2 l).bind fun i=>((fun id l=>(cx dB l.length l).bind fun ws=>some ({aN 0 with id:=id,wants:=ws},[])) (i.1:Int) i.2).bind fun y=>some ({y.1 with kind:=((8:Nat):Int)},y.2):=by
   rw[show((8:Nat):Int)=8 from rfl,Gf];unfold l5;cases aX 2 l with
   | none=>rfl
   |some x=>simp only[Option.bind_some];cases cx dB x.2.length x.2<;>rfl
  exact eH 138 (b 8) (fun id l=>(cx dB l.length l).bind fun ws=>some ({aN 0 with id:=id,wants:=ws},[])) _ fl (enters_of func138 (by kernel_rfl) rfl) hR (hs (by decide) (by decide)).rd (ho (by decide) (by decide)) oN (fun W1 tb id l1 h1 h2 h3 h4=>wX W1 B p tb id l1 h1 (by omega) h3 h4)
 ·refine⟨_,_,_,_,_,rfl,187,#[.pointer (some ⟨b 9+4,0,none⟩)],rfl,enters_of func187 (by kernel_rfl) rfl,fun W B p l fl hf hs ho hR hl=>?_⟩;have oN:cj ((9:Nat):Int) fl l=(aX 2 l).bind fun i=>((fun id l=>(cx cm l.length l).bind fun ws=>some ({aN 0 with id:=id,codes:=ws},[])) (i.1:Int) i.2).bind fun y=>some ({y.1 with kind:=((9:Nat):Int)},y.2):=by
   rw[show((9:Nat):Int)=9 from rfl,Gg];unfold l6;cases aX 2 l with
   | none=>rfl
   |some x=>simp only[Option.bind_some];cases cx cm x.2.length x.2<;>rfl
  exact eH 147 (b 9) (fun id l=>(cx cm l.length l).bind fun ws=>some ({aN 0 with id:=id,codes:=ws},[])) _ fl (enters_of func147 (by kernel_rfl) rfl) hR (hs (by decide) (by decide)).rd (ho (by decide) (by decide)) oN (fun W1 tb id l1 h1 h2 h3 h4=>yZ W1 B p tb id l1 h1 (by omega) h3 h4)
 ·refine⟨_,_,_,_,_,rfl,187,#[.pointer (some ⟨b 10+4,0,none⟩)],rfl,enters_of func187 (by kernel_rfl) rfl,fun W B p l fl hf hs ho hR hl=>?_⟩;have oN:cj ((10:Nat):Int) fl l=(aX 2 l).bind fun i=>((fun id l=>(cx bC l.length l).bind fun ws=>some ({aN 0 with id:=id,filters:=ws},[])) (i.1:Int) i.2).bind fun y=>some ({y.1 with kind:=((10:Nat):Int)},y.2):=by
   rw[show((10:Nat):Int)=10 from rfl,Ms];unfold l7;cases aX 2 l with
   | none=>rfl
   |some x=>simp only[Option.bind_some];cases cx bC x.2.length x.2<;>rfl
  exact eH 154 (b 10) (fun id l=>(cx bC l.length l).bind fun ws=>some ({aN 0 with id:=id,filters:=ws},[])) _ fl (enters_of func154 (by kernel_rfl) rfl) hR (hs (by decide) (by decide)).rd (ho (by decide) (by decide)) oN (fun W1 tb id l1 h1 h2 h3 h4=>zb W1 B p tb id l1 h1 (by omega) h3 h4)
 ·refine⟨_,_,_,_,_,rfl,187,#[.pointer (some ⟨b 11+4,0,none⟩)],rfl,enters_of func187 (by kernel_rfl) rfl,fun W B p l fl hf hs ho hR hl=>?_⟩;have oN:cj ((11:Nat):Int) fl l=(aX 2 l).bind fun i=>((fun id l=>some ({aN 0 with id:=id},l)) (i.1:Int) i.2).bind fun y=>some ({y.1 with kind:=((11:Nat):Int)},y.2):=by rw[show((11:Nat):Int)=11 from rfl,qR (by decide) (by decide) (by decide) (by decide)];unfold m7;cases aX 2 l<;>rfl
  exact eH 214 (b 11) (fun id l=>some ({aN 0 with id:=id},l)) _ fl (enters_of func214 (by kernel_rfl) rfl) hR (hs (by decide) (by decide)).rd (ho (by decide) (by decide)) oN (fun W1 tb id l1 h1 h2 h3 h4=>gU W1 B p tb id l1 h1 h3)
 ·exact⟨_,_,_,_,_,rfl,122,#[],rfl,enters_of func122 (by kernel_rfl) rfl,fun W B p l fl hf hs ho hR hl=>pM _ (by decide) fl hR⟩
 ·exact⟨_,_,_,_,_,rfl,122,#[],rfl,enters_of func122 (by kernel_rfl) rfl,fun W B p l fl hf hs ho hR hl=>pM _ (by decide) fl hR⟩
 exact⟨_,_,_,_,_,rfl,122,#[],rfl,enters_of func122 (by kernel_rfl) rfl,fun W B p l fl hf hs ho hR hl=>pM _ (by decide) fl hR⟩
theorem Mw(W:World):(binOp .neq 146 .nilFunc .nilFunc).run prog W=.ok (.bool false) W:=by
 have h:(Op.equal 146 .nilFunc .nilFunc).run prog W=.ok true W:=by unfold Op.equal;rw[show Op.maxDepth=(Op.maxDepth-1)+1 from rfl];unfold Op.equalIn;simp[run_underlying underlying146]
 simp[binOp,h]
theorem Gi(f:FuncId)(c:Array Value)(W:World):(binOp .neq 146 (.func (.func f) #[] c) .nilFunc).run prog W=.ok (.bool true) W:=by
 have h:(Op.equal 146 (.func (.func f) #[] c) .nilFunc).run prog W=.ok false W:=by unfold Op.equal;rw[show Op.maxDepth=(Op.maxDepth-1)+1 from rfl];unfold Op.equalIn;simp[run_underlying underlying146]
 simp[binOp,h]
theorem Gj(s1 s2:Operand)(W:World):(eqGuard .neq 146 s1 s2 .nilFunc .nilFunc).run prog W=.ok () W:=by go_simp
theorem Bq(f:FuncId)(c:Array Value)(s1 s2:Operand)(W:World):(eqGuard .neq 146 s1 s2 (.func (.func f) #[] c) .nilFunc).run prog W=.ok () W:=by go_simp
theorem Ua(W:World):(binOp .neq 147 .nilFunc .nilFunc).run prog W=.ok (.bool false) W:=by
 have h:(Op.equal 147 .nilFunc .nilFunc).run prog W=.ok true W:=by unfold Op.equal;rw[show Op.maxDepth=(Op.maxDepth-1)+1 from rfl];unfold Op.equalIn;simp[run_underlying underlying147]
 simp[binOp,h]
theorem Ps(f:FuncId)(c:Array Value)(W:World):(binOp .neq 147 (.func (.func f) #[] c) .nilFunc).run prog W=.ok (.bool true) W:=by
 have h:(Op.equal 147 (.func (.func f) #[] c) .nilFunc).run prog W=.ok false W:=by unfold Op.equal;rw[show Op.maxDepth=(Op.maxDepth-1)+1 from rfl];unfold Op.equalIn;simp[run_underlying underlying147]
 simp[binOp,h]
theorem Pt(s1 s2:Operand)(W:World):(eqGuard .neq 147 s1 s2 .nilFunc .nilFunc).run prog W=.ok () W:=by go_simp
theorem Mx(f:FuncId)(c:Array Value)(s1 s2:Operand)(W:World):(eqGuard .neq 147 s1 s2 (.func (.func f) #[] c) .nilFunc).run prog W=.ok () W:=by go_simp
structure XY (w:World)(pc:Array Value)(kb:Nat)(cs:Array Value)(b:Nat->Nat)(W:World):Prop where
 ag:Below w.heap.size w W
 pack:ar W w.heap.size pc 52
 kind:ar W kb cs 150
 box:∀k,4<=k->k<=11->kQ b k W
theorem XY.step{w:World}{pc:Array Value}{kb:Nat}{cs:Array Value}{b:Nat->Nat}{W W':World}(h:XY w pc kb cs b W)(hb:Below W.heap.size W W'):XY w pc kb cs b W':=⟨h.ag.trans (hb.mono h.ag.size),h.pack.ag hb,h.kind.ag hb,fun k h4 h11=>oM.ag (h.box k h4 h11) hb⟩
theorem wY{P:Program}{w:World}{o:Oper}{a:Act}{K:Act->World->Prop}{Q:Exit->Act->World->Prop}(sl x:Operand)(t u:TypeId)
  (ho:o.op=.call {callee:=.builtin .append,args:=#[sl,x],argTypes:=#[t,u]})
  (base:Nat) (e:TypeId) (i:TypeInfo) (ht:P.underlying t=some (.slice e)) (hu:P.underlying u=some .string) (hi:P.info? e=some i) (hz:i.zero=some (.int .u8 0))
  (hsize:i.size=1) (hby:i.bytes=1)
  (v:Value) (n:Nat) (xs:List Value) (hs:a.eval sl=v) (hown:w.ownsRow base e 1 v n xs) (s:ByteArray) (hx:a.eval x=.string s)
  (h63:n+s.size<=maxLen) (hbytes:n+s.size<=140737488355328) (hbase:base<=w.heap.size)
  (h:∀v' w',w'.ownsRow base e 1 v' (n+s.size) (xs++Go.Lib.strCells s)->w.grownBy w' v.ownBlock->K (a.put o.dst v') w'):o.wp P a w K Q:=by
 obtain⟨v',w',hr,h2,h3,h4⟩:=Go.Lib.run_append_own_string (P:=P) w base t u o.type e i ht hu hi hz hsize hby v n xs hown s h63 hbytes hbase;unfold Oper.wp execOp;simp only[ho,resolve,invoke,builtin,Sem.run_bind,Sem.run_pure,Result.andThen_ok,List.map_toArray,List.map_cons,List.map_nil,hs,hx,hr];exact h v' w' h2 h3
theorem My(x:Int)(w:World):(w.alloc (.cells #[.int .u8 x] 5)).ownsRow w.heap.size 5 1 (.slice (some ⟨w.heap.size,0,none⟩) 1 1) 1 [.int .u8 x]:=World.ownsRow_lit w #[.int .u8 x] 1 ah (by decide) rfl
theorem Mz(k f:Nat)(hk:k<16)(hf:f<16):bits .or .u8 ((k:Int)*16) (f:Int)=(k:Int)*16+f:=by
 have:∀k f:Fin 16,bits .or .u8 (((k:Nat):Int)*16) ((f:Nat):Int)=((k:Nat):Int)*16+((f:Nat):Int):=by decide+kernel
 exact this ⟨k,hk⟩ ⟨f,hf⟩
theorem In.toN{w W:World}{p:Pk}{h:H3}{F:List Nat}(cd:p.In w h)(hb:Below w.heap.size w W)(hF:∀x∈F,w.heap.size<=x):vE W p h F:=by
 have go:∀{α:Type}{f:α->List Value}{sz:Nat}{hd:Hd}{xs:List α},aW f sz w hd.a hd.n hd.c xs->eN f sz W hd xs F:=fun k=>⟨k.ag hb,fun hne y hy hm=>by obtain⟨g,off,e,hg, -⟩:=k.eM 0 _ (List.getElem?_eq_getElem (List.length_pos_iff.2 hne));rw[hy]at e;cases e;have:=hF _ hm;dsimp only at this;omega⟩
 exact⟨go cd.lw,go cd.lc,go cd.lf⟩
theorem Ub(p:Pk)(h:H3)(hs:yT p)(hfw:(∀x∈p.wants,x.filter.length<=2000000)/\∀x∈p.filters,x.length<=2000000)(w:World)(cd:p.In w h)(hr:aZ p):
  Calls prog 54 #[.agg (p.cells h).toArray] w fun e w'=>∃v,e=.returned (.tuple #[v,.int .i64 0])/\w'.ownsRow w.heap.size 5 1 v (eG p).length (bs (eG p))/\Below w.heap.size w w':=by
 have CK:=vJ p h hs hfw;unfold tP at CK;obtain⟨pc,bt⟩:=ae ((p.cells h).toArray);obtain⟨W0,hW0⟩:=ae (w.alloc (.cells pc 52));have b0:Below w.heap.size w W0:=by rw[<-hW0];exact ai.alloc ah _
 have C1:=af (CK W0 (cd.ag b0));rw[bt]at C1;have hb0:=af b0;have P0:ar W0 w.heap.size pc 52:=by rw[<-hW0];exact ar.new _ _ _
 have ic:Hid ((prog.info? 52).map (·.size)=some pc.size):=af (by rw[<-bt];exact(by kernel_rfl:(prog.info? 52).map (·.size)=some 24));obtain⟨kd,dP⟩:=ae p.kind;have kc:Hid (∀W,ar W w.heap.size pc 52->W.cell? ⟨w.heap.size,0,none⟩=some (.int .i64 kd)):=af fun W hb=>by rw[hb.cell,<-bt,<-dP];rfl
 have kb5:Hid (∀W,ar W w.heap.size pc 52->W.cell? ⟨w.heap.size,5,none⟩=some (.string ⟨p.body.toArray⟩)):=af fun W hb=>by rw[hb.cell,<-bt];rfl
 have Km:Hid (1<=kd/\kd<=14):=af (by rw[<-dP];exact dH hr);have dP:=af dP;rw[bt];have bt:=af bt;have HI:=af cd;have FW:=af (fun b k hk gW=>XW b p h hr k hk gW);have hr:=af hr;clear cd hs hfw CK b0;go_enter func54,ntmps54;have tok:=af trivial;go_wp2_with (clear tok;refine wL 52 rfl rfl P0 underlying52 ?_ rfl rfl ic.out);refine C1.mono ?_;rintro e w1 ⟨z,rfl,hz,hb1⟩;obtain rfl:z=0:=hz.2 hr.out;have P1:=af (P0.ag hb1);have gH:=af (hb0.trans (hb1.mono hb0.size));clear hz hb1 P0 hW0 C1;go_upto_region 4 with fail;try simp only[PT]
 go_cut [5]from 16 (fun s5 wx=>∃(kb:Nat)(g1 g2 g3 g4 g5:Value),s5=.pointer (some ⟨kb,0,none⟩)/\Hid (I6 w pc p kb g1 g2 g3 g4 g5 true wx))
 case first=>
  have vt:Below w.heap.size w w1.drew:=gH.drew;have rM:ar w1.drew w.heap.size pc 52:=P1.out;refine aH [(1000,fun w'=>ar w' w.heap.size pc 52)] (by kernel_rfl) ⟨rM,trivial⟩ fun KQ aL=>?_;try simp only[PT]
  obtain⟨W5,Sv⟩:=ae w1.drew;rw[Sv]at vt rM ⊢;refine tQ [1] ?_;refine aG 2 rfl (by kernel_rfl) (by kernel_rfl) rfl rfl 0 rfl (by kernel_rfl) (.int .i64 kd) (fun w' hf=>by(have k0:=kc _ hf;go_simp<;>with_reducible rfl)) ?_;simp only[PT];refine dM [0,4] (fun j hj=>?_);have hj:j=0\/j=4:=by simpa using hj
  rcases hj with rfl | rfl
  ·refine⟨⟨_,rfl,by kernel_rfl,fun K hK=>?_⟩⟩;go_simp;refine(lD _).mono ?_;rintro e w6 ⟨m,b,rfl,⟨hm,hc⟩,fj⟩;have mI:=rM.ag fj;obtain⟨g1,g2,g3,g4,g5,hg,aV,hsome⟩:=jW b kd;have rN:=vt.trans (fj.mono vt.size);refine hK _ _ ⟨⟨fun _=>mI,trivial⟩,?_⟩;clear hK K;try simp only[PT]
   refine fS [(1000,fun w'=>ar w' w.heap.size pc 52),(1000,fun w'=>IM .i64 w' m (cS b))] (by simp) ⟨fun _=>mI,fun _=>hm,trivial⟩ ?_;refine gM 3 rfl (by kernel_rfl) (by kernel_rfl) rfl rfl rfl 1 rfl (by kernel_rfl) (.agg #[g1,g2,g3,g4,g5]) (fun w' hf=>(qQ hf kd false).trans (by rw[hg];rfl)) ?_;try simp only[PT]
   have kO:(cS b kd).isSome=true:=by unfold cS;rw[if_pos Km.out];rfl
   refine sQ 4 fun K hK=>?_;simp only[GO];go_simp;refine hK _ _ ⟨⟨fun _=>mI.alloc _,fun _=>hm.alloc _,trivial⟩,?_⟩;clear hK K;try simp only[PT]
   refine sQ 5 fun K hK=>?_;simp only[GO];refine wW 150 5 rfl w6.heap.size xN #[g1,g2,g3,g4,g5] rfl rfl (ar.new _ _ _) rfl rfl aV fun w7 gZ gD=>?_;replace gD:ak [w6.heap.size] (w6.alloc (.cells xN 150)) w7:=gD;have zl:=rN.size;have Sw:(w6.alloc (.cells xN 150)).heap.size=w6.heap.size+1:=by simp
   have Pq:Below w6.heap.size w6 w7:=(ai.alloc ah _).trans (gD.ag (by simp) (by simp));have ou:=rN.trans (Pq.mono rN.size);have vu:=mI.ag Pq;have DM:=hm.ag Pq;refine hK _ _ ⟨⟨fun _=>vu,fun _=>DM,trivial⟩,?_⟩;clear hK K;try simp only[PT]
   refine dQ (aL.out _ _ ?_);clear aL KQ;have hR:=af (show I6 w pc p w6.heap.size g1 g2 g3 g4 g5 true w7 from⟨ou,vu,gZ,(fun h=>by cases h),fun h=>⟨b,by rw[dP.out];exact hsome kO,fun k h4 h11=>oM.ag (hc k h4 h11) Pq⟩⟩);go_wp2;go_meet
   case rel=>exact⟨_,_,_,_,_,_,rfl,hR⟩
  refine⟨⟨_,rfl,by kernel_rfl,fun K hK=>?_⟩⟩;go_simp;refine hK _ _ ⟨⟨fun _=>rM.alloc _,trivial⟩,?_⟩;clear hK K;try simp only[PT]
  refine sQ 0 fun K hK=>?_;simp only[GO];go_simp;refine(lD _).mono ?_;rintro e w6 ⟨m,b,rfl,⟨hm,hc⟩,fj⟩;have mI:=(rM.alloc (.cells xN 150)).ag fj;have DN:=(ar.new W5 xN 150).ag fj;obtain⟨g1,g2,g3,g4,g5,hg,aV,hsome⟩:=jW b kd;have hs5:=vt.size;have FC:(W5.alloc (.cells xN 150)).heap.size=W5.heap.size+1:=by simp
  have rN:=(vt.alloc hs5 (.cells xN 150)).trans (fj.mono (by simp;omega));have Sx:W5.heap.size+1<=w6.heap.size:=by have:=fj.size;simpa using this
  refine hK _ _ ⟨⟨fun _=>mI,trivial⟩,?_⟩;clear hK K;try simp only[PT]
  refine fS [(1000,fun w'=>ar w' w.heap.size pc 52),(1000,fun w'=>IM .i64 w' m (cS b))] (by simp) ⟨fun _=>mI,fun _=>hm,trivial⟩ ?_;refine gM 3 rfl (by kernel_rfl) (by kernel_rfl) rfl rfl rfl 1 rfl (by kernel_rfl) (.agg #[g1,g2,g3,g4,g5]) (fun w' hf=>(qQ hf kd false).trans (by rw[hg];rfl)) ?_;try simp only[PT]
  have kO:(cS b kd).isSome=true:=by unfold cS;rw[if_pos Km.out];rfl
  refine sQ 5 fun K hK=>?_;simp only[GO];have hne:m≠W5.heap.size:=fun h=>by obtain⟨es,cl,h1, -⟩:=hm;have h2:w6.heap[W5.heap.size]?=_:=DN;rw[h,h2]at h1;cases h1
  have sZ:∀(T:TypeId)(v:Value)(x:Nat),Boxed w6 x T v->x≠W5.heap.size:=fun T v x hx h=>by have h1:w6.heap[x]?=_:=hx;have h2:w6.heap[W5.heap.size]?=_:=DN;rw[h,h2]at h1;cases h1
  refine wW 150 5 rfl W5.heap.size xN #[g1,g2,g3,g4,g5] rfl rfl DN rfl rfl aV fun w7 gZ gD=>?_;have ou:=rN.trans (gD.ag (by have:=rN.size;omega) (by simp;omega));have vu:=mI.aw gD (by have:=rM.lt;simp;omega);have DM:=hm.wrote gD (by simpa using hne);refine hK _ _ ⟨⟨fun _=>vu,fun _=>DM,trivial⟩,?_⟩;clear hK K;try simp only[PT]
  refine dQ (aL.out _ _ ?_);clear aL KQ;have hR:=af (show I6 w pc p W5.heap.size g1 g2 g3 g4 g5 true w7 from⟨ou,vu,gZ,(fun h=>by cases h),fun h=>⟨b,by rw[dP.out];exact hsome kO,fun k h4 h11=>by have x:=hc k h4 h11;exact oM.wrote x gD (by simpa using sZ _ _ _ x.fl) (by simpa using sZ _ _ _ x.has) (by simpa using sZ _ _ _ x.may) (by simpa using sZ _ _ _ x.wr) (by simpa using sZ _ _ _ x.rd)⟩⟩)
  go_wp2;go_meet
  case rel=>exact⟨_,_,_,_,_,_,rfl,hR⟩
 case rest=>
  obtain⟨kb,g1,g2,g3,g4,g5,rfl,hK⟩:=hcut;obtain⟨wa,sM⟩:=ae wc;rw[sM]at hK ⊢;clear sM;obtain⟨b,La,hL⟩:=hK.out.some rfl;obtain⟨n,hn,pQ,hv⟩:=nH La;obtain⟨UZ,VY,ZQ,g4',g5',m,hv',mK,hwr,jL⟩:=FW b n hn pQ;rw[hv]at hv';simp only[Value.agg.injEq,Array.mk.injEq,List.cons.injEq,and_true]at hv';obtain⟨rfl,rfl,rfl,rfl,rfl⟩:=hv';have k0:=kc _ hK.out.pack;have k2:wa.cell? ⟨kb,2,none⟩=some g3:=hK.out.kind.cell 2;have ahN:1<=kd:=Km.1;have ahO:kd<=14:=Km.2;have HL:=af hL;have mK:=af mK;have hwr:=af hwr;have jL:=af jL;clear La hv hL hn pQ;have HR:=af (show XY w pc kb #[g1,g2,g3,g4,g5] b wa from⟨hK.out.ag,hK.out.pack,hK.out.kind,HL.out⟩);have Gk:=af (nj hr.out);obtain⟨fl,Eu⟩:=ae (cE p);rw[Eu]at Gk;have Eu:=af Eu;obtain⟨kn,Uc⟩:=Int.eq_ofNat_of_zero_le (show 0<=kd by omega);have XZ:=af (Mz kn fl (by omega) Gk.out);rw[<-Uc]at XZ;replace Uc:=af Uc;obtain⟨fz,hfz⟩:=ae ((fl:Int):Int);have acv:0<=fz:=by omega
  have acw:fz<16:=by have:=Gk.out;omega
  rw[hfz]at XZ;have hfz:=af hfz;obtain⟨nb,sZ,ze,vK⟩:∃nb:Bool,(∀W,(binOp .neq 146 g3 .nilFunc).run prog W=.ok (.bool nb) W)/\(∀s1 s2 W,(eqGuard .neq 146 s1 s2 g3 .nilFunc).run prog W=.ok () W)/\((nb=false/\fz=0)\/(nb=true/\∃f c,g3=bG f c/\gY f/\∀W,km b p.kind.toNat W->Calls prog f (#[.agg pc]++c) W fun e w'=>e=.returned (.int .i64 fz)/\Below W.heap.size W w')):=by
   rcases mK.out with⟨rfl,zf⟩ | ⟨ff,fc,rfl,Gl,Pu⟩
   ·exact⟨false,Mw,Gj,.inl ⟨rfl,by rw[<-hfz.out,<-Eu.out,zf];rfl⟩⟩
   refine⟨true,fun W=>Gi ff fc W,fun s1 s2 W=>Bq ff fc s1 s2 W,.inr ⟨rfl,ff,fc,rfl,Gl,fun W ey=>?_⟩⟩;have:=Pu W ey;rw[bt.out,Eu.out,hfz.out]at this;exact this
  obtain⟨nw,Vk,I7,MA⟩:∃nw:Bool,(∀W,(binOp .neq 147 g4 .nilFunc).run prog W=.ok (.bool nw) W)/\(∀s1 s2 W,(eqGuard .neq 147 s1 s2 g4 .nilFunc).run prog W=.ok () W)/\((nw=false/\m=[])\/(nw=true/\∃f c,g4=bG f c/\gY f/\∀W F q,km b p.kind.toNat W->p.In W h->Wr W F q []->(∀k:Nat,4<=k->k<=11->b k+3∉F)->vE W p h F->Calls prog f (#[.pointer (some ⟨q,0,none⟩),.agg pc]++c) W (lJ F q [] m W))):=by
   rcases hwr.out with⟨rfl,zf⟩ | ⟨ff,fc,rfl,Gl,Pu⟩
   ·exact⟨false,Ua,Pt,.inl ⟨rfl,zf⟩⟩
   refine⟨true,fun W=>Ps ff fc W,fun s1 s2 W=>Mx ff fc s1 s2 W,.inr ⟨rfl,ff,fc,rfl,Gl,fun W F q h1 h2 h3 h4 h5=>?_⟩⟩;have:=Pu W F q h1 h2 h3 h4 h5;rw[bt.out]at this;exact this
  have vK:=af vK;have MA:=af MA;have Vk:=af Vk;have I7:=af I7;clear hK mK hwr;go_upto_if 26 with fail;try simp only[PT]
  go_cut [6]from 27 (fun s6 wx=>s6=.int .u8 (kd*16+fz)/\Hid (XY w pc kb #[g1,g2,g3,g4,g5] b wx))
  case first=>
   rcases vK.out with⟨rfl,zf⟩ | ⟨rfl,ff,fc,rfl,Gl,Pu⟩
   ·subst zf;go_wp2_with fail
    go_meet
    case rel=>exact⟨by simp,HR⟩
   unfold bG at k2;unfold gY at Gl;have CF:=af (Pu wa (fun h4 h11=>HR.box _ h4 h11));have ta:=HR.pack;have XZ:=XZ.out;have tok:=af trivial;clear vK Pu sZ ze;go_wp2_with (clear tok;refine wL 52 rfl rfl ta underlying52 ?_ rfl rfl ic.out);refine CF.mono ?_;rintro e w8 ⟨rfl,pU⟩;have HR8:=af (HR.step pU);clear pU ta k0 k2;go_wp2_with fail;go_meet
   case rel=>exact⟨rfl,HR8⟩
  case rest=>
   obtain⟨rfl,HB⟩:=hcut;obtain⟨wb,ov⟩:=ae wc;rw[ov]at HB ⊢;clear ov sZ ze vK k0 k2 HR XZ;have k3:Hid (∀W,Below wb.heap.size wb W->W.cell? ⟨kb,3,none⟩=some g4):=af (fun W hb=>(HB.out.step hb).kind.cell 3);have CNW:=af (m0 wb);have Vk:=Vk.out;have I7:=I7.out;go_upto_region 8 with fail
   go_wp2_with fail
   refine CNW.mono ?_;rintro e w9 ⟨rfl,hW9,tN⟩;have k3:=k3 _ tN;have H9:=af hW9;have B9:=af tN;have Tp:=tN.size;have X6:=af (H9.lt _ (List.mem_singleton.2 rfl));obtain⟨q,hq⟩:=ae wb.heap.size;rw[hq]at H9 X6 ⊢;have hq:=af hq;clear hW9 tN Tp;go_upto_if 37 with fail;try simp only[PT]
   go_cut []from 38 (fun wx=>∃F1,Hid (Wr wx F1 q m)/\Hid (Below wb.heap.size wb wx))
   case first=>
    rcases MA.out with⟨rfl,hm0⟩ | ⟨rfl,ff,fc,rfl,Gl,Pu⟩
    ·go_wp2_with fail
     go_meet
     case rel=>exact⟨[q],by rw[hm0];exact H9,B9⟩
    unfold bG at k3;unfold gY at Gl;have X7:=HB.out.step B9.out;have CF:=af (Pu w9 [q] q (fun h4 h11=>X7.box _ h4 h11) (HI.ag X7.ag) H9.out (fun k h4 h11 hm=>by
     have h1:=(HB.out.box k h4 h11).wr.lt;have h2:=hq.out;simp at hm;omega) (In.toN HI.out X7.ag (fun x hx=>by
     have h2:=hq.out;have h3:=HB.out.ag.size;simp at hx;omega)))
    have ta:=X7.pack;have tok:=af trivial;clear MA Pu Vk I7 X7;go_wp2_with (clear tok;refine wL 52 rfl rfl ta underlying52 ?_ rfl rfl ic.out);refine CF.mono ?_;rintro e FD ⟨F1,rfl,jq,Ya⟩;have Yb:=af (B9.trans (Ya.wrote.ag B9.size (by have h2:=hq.out;simp;omega)));have Bl:Hid (Wr FD F1 q m):=af (by simpa using jq);clear jq Ya ta k3;go_wp2_with fail;go_meet
    case rel=>exact⟨F1,Bl,Yb⟩
   case rest=>
    obtain⟨F1,Ep,Yc⟩:=hcut;obtain⟨wd,hwd⟩:=ae wc;rw[hwd]at Ep Yc ⊢;clear hwd k3 Vk I7 MA H9 B9 X6 CNW;have Ud:=af (HB.out.step Yc.out);go_upto_region 11 with fail
    obtain⟨i0,hi,hz0,hz1,hz2⟩:=info_parts Tryz.zF;have Og:Hid (m.length+p.body.length<=5000):=af (by have h9:=eU hr.out;rw[jL.out,List.length_append]at h9;exact h9);have bD:Below wd.heap.size wd wd.drew:=ai.drew;have PD:ar wd.drew w.heap.size pc 52:=Ud.pack.ag bD;have BD:Below w.heap.size w wd.drew:=Ud.ag.drew;have HD:Wr wd.drew F1 q m:=Ep.out.ag bD;refine aH [(1000,fun w'=>ar w' w.heap.size pc 52)] (by kernel_rfl) ⟨PD,trivial⟩ fun KQ aL=>?_;obtain⟨WD,di⟩:=ae wd.drew;rw[di]at PD BD HD ⊢;clear di bD Ep Ud Yc;try simp only[PT]
    refine tQ [0,2] ?_;refine aG 3 rfl (by kernel_rfl) (by kernel_rfl) rfl rfl 0 rfl (by kernel_rfl) (.string ⟨p.body.toArray⟩) (fun w' hf=>by(have k0:=kb5 _ hf;go_simp<;>with_reducible rfl)) ?_;simp only[PT];refine sQ 1 fun K hK=>?_;simp only[GO];go_simp;refine(uX HD (by have:=Og.out;omega)).mono ?_;rintro e wO ⟨v,rfl,ho,hb⟩;have P11:=PD.ag hb;have Yc:=BD.trans (hb.mono BD.size);have rO:=hb.size;refine hK _ _ ⟨⟨fun _=>P11,trivial⟩,?_⟩;clear hK K;try simp only[PT]
    refine sQ 4 fun K hK=>?_;simp only[GO];have hsz:(⟨p.body.toArray⟩:ByteArray).size=p.body.length:=by simp[ByteArray.size]
    refine wY _ _ 22 9 rfl WD.heap.size 5 i0 underlying22 underlying9 hi hz0 hz1 hz2 v m.length (bs m) rfl ho ⟨p.body.toArray⟩ rfl (by rw[hsz];have:=Og.out;unfold maxLen;omega) (by rw[hsz];have:=Og.out;omega) rO fun v12 FE how hg=>?_;rw[hsz,ky,<-lZ,<-jL.out,<-List.length_append,<-jL.out]at how;have Jy:Below WD.heap.size wO FE:=(Below.refl wO.heap.size wO).mono rO |>.grown hg rO (fun y hy=>(ho.lt y hy).1)
    have P12:ar FE w.heap.size pc 52:=PD.ag (hb.trans Jy);have B12:=af (BD.trans ((hb.trans Jy).mono BD.size));refine hK _ _ ⟨⟨fun _=>P12,trivial⟩,?_⟩;clear hK K;try simp only[PT]
    refine tQ [5] ?_;refine dQ (aL.out _ _ ?_);clear aL KQ;obtain⟨a12,c12,rfl⟩:=aA how;have HOW:=af (aT how (base':=w.heap.size) BD.size);obtain⟨bl,hbl⟩:=ae ((bj p).length);have acx:bl<=5000:=by rw[<-hbl];exact eU hr.out
    rw[hbl]at HOW ⊢;have hbl:=af hbl;have CL:=af (NP (bl:Int) FE (by unfold kY;simp;omega));clear how P12 P11 Yc hb ho hg Jy PD BD HD hsz;go_wp2_with fail;refine CL.mono ?_;rintro e zm ⟨v13,rfl,MB,wP⟩;have Ip:=nX (bl:Int);have wZ:Hid (bs (eG p)=[.int .u8 (kd*16+fz)]++bs (eP (bR (bl:Int)) bl)++bs (bj p)):=af (by unfold eG yG;rw[hbl.out,show(UInt8.ofNat (16*p.kind.toNat+cE p)::(eP (bR (bl:Int)) bl++bj p))=[UInt8.ofNat (16*p.kind.toNat+cE p)]++(eP (bR (bl:Int)) bl++bj p)from rfl,lZ,lZ,<-List.append_assoc];congr 2;unfold bs;simp only[List.map_cons,List.map_nil];rw[gv _ (by have:=Gk.out;have:=Eu.out;have:=dP.out;omega)];have h1:=hfz.out;have h2:=Eu.out;have h3:=dP.out;congr 2;omega)
    have uj:Hid ((eG p).length=1+bR (bl:Int)+bl):=af (by unfold eG yG;rw[List.length_cons,List.length_append,eu,hbl.out];omega)
    obtain⟨sl,sX⟩:=ae (bR (bl:Int));rw[sX]at MB wZ Ip uj;rw[show((bl:Nat):Int).toNat=bl from rfl]at MB;obtain⟨Ww,c13,rfl⟩:=aA MB;obtain⟨fb,Gm⟩:=ae (kd*16+fz);rw[Gm]at wZ ⊢;have mm:=My fb zm;have acy:=af MB;have acz:=af (aB HOW.out wP);have B13:=af (B12.trans (wP.mono B12.size));have ahR:=wP.size;have hL:=af mm;have sX:=af sX;have Gm:=af Gm;clear MB wP CL mm;have t1:=af trivial;have t2:=af trivial;go_wp2_with (first
     | (clear t1;at_builtin;refine wpList_plain rfl fun _ hK=>aR _ _ rfl Tryz.vF (by decide) zm.heap.size _ 1 _ rfl hL.out FE.heap.size _ sl _ rfl (acy.alloc _) (eX _) (by omega) (by omega) (by simp) fun v14 Er xO Br Yd=>hK _ _ ?_)
     | (clear t2;at_builtin;refine wpList_plain rfl fun _ hK=>aR _ _ rfl Tryz.vF (by decide) zm.heap.size _ (1+sl) _ rfl xO w.heap.size _ bl _ rfl (aB acz.out (((Below.refl zm.heap.size zm).alloc ah _).grown Br (by simp) (fun y hy=>(hL.lt y hy).1))) (eX _) (by omega) (by omega) (by have:=Br.size;simp at this;omega) fun v15 Q1 Gn Pv Ye=>hK _ _ ?_))
    have KV:Below zm.heap.size zm Er:=((Below.refl zm.heap.size zm).alloc ah _).grown Br (by simp) (fun y hy=>(hL.lt y hy).1);have OE:Below zm.heap.size zm Q1:=KV.grown Pv KV.size (fun y hy=>(xO.lt y hy).1);have HF:=af (show Q1.ownsRow w.heap.size 5 1 v15 (eG p).length (bs (eG p))from by rw[uj,wZ];exact aT Gn B13.size)
    have acB:=af (B13.trans (OE.mono B13.size));clear xO Gn Br Pv Yd Ye KV OE;go_ret2;exact⟨v15,rfl,HF.out,acB.out⟩
def Ue(b:Nat->Nat)(k:Nat)(g:Value):Prop:=(g=.nilFunc/\∀y:Pk,y.kind=(k:Int)->cE y=0)\/∃f c,g=bG f c/\gY f/\∀W (y:Pk) (h:H3),y.kind=(k:Int)->((k:Int)=3->0<=y.qos/\y.qos<=3)->km b k W->Calls prog f (#[.agg (y.cells h).toArray]++c) W fun e w'=>e=.returned (.int .i64 (cE y))/\Below W.heap.size W w'
theorem Yf(b:Nat->Nat)(k:Nat)(gW:1<=k/\k<=14):∃g1 g2 g3 g4 g5,dg b k=.agg #[g1,g2,g3,g4,g5]/\Ue b k g3:=by
 have:k=1\/k=2\/k=3\/k=4\/k=5\/k=6\/k=7\/k=8\/k=9\/k=10\/k=11\/k=12\/k=13\/k=14:=by omega
 rcases this with rfl | rfl | rfl | rfl | rfl | rfl | rfl | rfl | rfl | rfl | rfl | rfl | rfl | rfl
 ·exact⟨_,_,_,_,_,rfl,.inl ⟨rfl,fun y hy=>fU (by omega) (by omega)⟩⟩
 ·exact⟨_,_,_,_,_,rfl,.inl ⟨rfl,fun y hy=>fU (by omega) (by omega)⟩⟩
 ·exact⟨_,_,_,_,_,rfl,.inr ⟨206,#[],rfl,enters_of func206 (by kernel_rfl) rfl,fun W y h hk hq _=>sR y h W hk (hq rfl)⟩⟩
 ·exact⟨_,_,_,_,_,rfl,.inr ⟨185,#[.pointer (some ⟨b 4,0,none⟩)],rfl,enters_of func185 (by kernel_rfl) rfl,fun W y h hk _ hs=>(cU 0 (b 4) _ W (hs (by decide) (by decide)).fl).mono fun e w' ⟨he,hb⟩=>⟨by rw[he,fU (by omega) (by omega)];rfl,hb⟩⟩⟩
 ·exact⟨_,_,_,_,_,rfl,.inr ⟨185,#[.pointer (some ⟨b 5,0,none⟩)],rfl,enters_of func185 (by kernel_rfl) rfl,fun W y h hk _ hs=>(cU 0 (b 5) _ W (hs (by decide) (by decide)).fl).mono fun e w' ⟨he,hb⟩=>⟨by rw[he,fU (by omega) (by omega)];rfl,hb⟩⟩⟩
 ·exact⟨_,_,_,_,_,rfl,.inr ⟨185,#[.pointer (some ⟨b 6,0,none⟩)],rfl,enters_of func185 (by kernel_rfl) rfl,fun W y h hk _ hs=>(cU 2 (b 6) _ W (hs (by decide) (by decide)).fl).mono fun e w' ⟨he,hb⟩=>⟨by rw[he,vI (by omega)];rfl,hb⟩⟩⟩
 ·exact⟨_,_,_,_,_,rfl,.inr ⟨185,#[.pointer (some ⟨b 7,0,none⟩)],rfl,enters_of func185 (by kernel_rfl) rfl,fun W y h hk _ hs=>(cU 0 (b 7) _ W (hs (by decide) (by decide)).fl).mono fun e w' ⟨he,hb⟩=>⟨by rw[he,fU (by omega) (by omega)];rfl,hb⟩⟩⟩
 ·exact⟨_,_,_,_,_,rfl,.inr ⟨185,#[.pointer (some ⟨b 8,0,none⟩)],rfl,enters_of func185 (by kernel_rfl) rfl,fun W y h hk _ hs=>(cU 2 (b 8) _ W (hs (by decide) (by decide)).fl).mono fun e w' ⟨he,hb⟩=>⟨by rw[he,vI (by omega)];rfl,hb⟩⟩⟩
 ·exact⟨_,_,_,_,_,rfl,.inr ⟨185,#[.pointer (some ⟨b 9,0,none⟩)],rfl,enters_of func185 (by kernel_rfl) rfl,fun W y h hk _ hs=>(cU 0 (b 9) _ W (hs (by decide) (by decide)).fl).mono fun e w' ⟨he,hb⟩=>⟨by rw[he,fU (by omega) (by omega)];rfl,hb⟩⟩⟩
 ·exact⟨_,_,_,_,_,rfl,.inr ⟨185,#[.pointer (some ⟨b 10,0,none⟩)],rfl,enters_of func185 (by kernel_rfl) rfl,fun W y h hk _ hs=>(cU 2 (b 10) _ W (hs (by decide) (by decide)).fl).mono fun e w' ⟨he,hb⟩=>⟨by rw[he,vI (by omega)];rfl,hb⟩⟩⟩
 ·exact⟨_,_,_,_,_,rfl,.inr ⟨185,#[.pointer (some ⟨b 11,0,none⟩)],rfl,enters_of func185 (by kernel_rfl) rfl,fun W y h hk _ hs=>(cU 0 (b 11) _ W (hs (by decide) (by decide)).fl).mono fun e w' ⟨he,hb⟩=>⟨by rw[he,fU (by omega) (by omega)];rfl,hb⟩⟩⟩
 ·exact⟨_,_,_,_,_,rfl,.inl ⟨rfl,fun y hy=>fU (by omega) (by omega)⟩⟩
 ·exact⟨_,_,_,_,_,rfl,.inl ⟨rfl,fun y hy=>fU (by omega) (by omega)⟩⟩
 exact⟨_,_,_,_,_,rfl,.inl ⟨rfl,fun y hy=>fU (by omega) (by omega)⟩⟩
end
theorem Jd{p:Pk}(h:aZ p){b:UInt8}{r:List UInt8}(hb:eG p=b::r):p.kind=((b.toNat / 16:Nat):Int)/\cE p=b.toNat%16/\bj p=r.drop (bS r).2.1.toNat:=by have hk:=dH h;have hf:=nj h;have hl:=eU h;have hm:kY (bj p).length=true:=(jJ _).2 (by omega);have hr:=xi ((bj p).length:Int) hm (bj p);rw[Int.toNat_natCast]at hr;unfold eG yG at hb;obtain⟨e1,e2⟩:=List.cons.inj hb;have hb:(UInt8.ofNat (16*p.kind.toNat+cE p)).toNat=16*p.kind.toNat+cE p:=gv _ (by omega);rw[e1]at hb;rw[<-e2,hr];rw[Int.toNat_natCast,List.drop_append_of_le_length (by rw[eu];omega),List.drop_of_length_le (by rw[eu];omega),List.nil_append];exact⟨by omega,by omega,rfl⟩
theorem Je(b:UInt8)(r:List UInt8):bg (b::r)=(nh ((b.toNat / 16:Nat):Int) (b.toNat%16) (r.drop (bS r).2.1.toNat)).bind fun p=>if aZ p/\eG p=b::r then some p else none:=by
 have key:∀q,bg (b::r)=some q->nh ((b.toNat / 16:Nat):Int) (b.toNat%16) (r.drop (bS r).2.1.toNat)=some q/\aZ q/\eG q=b::r:=fun q hq=>by obtain⟨h1,h2⟩:=(nk _ _).1 hq;obtain⟨k1,k2,k3⟩:=Jd h1 h2;rw[<-k1,<-k2,<-k3];exact⟨Hm h1,h1,h2⟩
 cases hx:nh ((b.toNat / 16:Nat):Int) (b.toNat%16) (r.drop (bS r).2.1.toNat)with
 |none=>
  cases hy:bg (b::r)with
  | none=>rfl
  | some q=>rw[(key q hy).1]at hx;cases hx
 | some p=>
  rw[Option.bind_some];split
  ·rename_i hc;exact(nk _ _).2 hc
  rename_i hc;cases hy:bg (b::r)with
  | none=>rfl
  |some q=>obtain⟨g1,g2⟩:=key q hy;rw[g1]at hx;cases hx;exact absurd g2 hc
theorem BJ(b:UInt8)(r:List UInt8)(h:¬((bS r).2.2=0/\(bS r).2.1≠0/\(r.length:Int)-(bS r).2.1=(bS r).1)):bg (b::r)=none:=by unfold bg;dsimp only;rw[if_neg h]
theorem xQ{α:Type}{take:List UInt8->Option (α×List UInt8)}{P:α->Prop}(h:∀l x r,take l=some (x,r)->P x):∀(n:Nat)(l r:List UInt8)(xs:List α),bJ take n l=some (xs,r)->∀x∈xs,P x
 | 0,l,r,xs,e=>by cases e;simp
 |n+1,l,r,xs,e=>by
  unfold bJ at e;obtain⟨x,h1,e⟩:=Option.bind_eq_some_iff.1 e;obtain⟨y,h2,e⟩:=Option.bind_eq_some_iff.1 e;cases e;intro z hz;rcases List.mem_cons.1 hz with rfl | hz
  ·exact h l x.1 x.2 h1
  exact xQ h n x.2 y.2 y.1 h2 z hz
theorem EF{k:Int}{f:Nat}{l:List UInt8}{p:Pk}(hl:l.length<=65536)(h:nh k f l=some p):yT p:=by
 unfold nh at h;split at h
 ·unfold pD at h;split at h
  ·cases h
  obtain⟨x,h1,h⟩:=Option.bind_eq_some_iff.1 h;cases h;have ha:=xQ (P:=fun s:List UInt8=>s.length<=2000000) (fun l x r h=>js h) _ _ x.2 x.1 h1;have hd:∀(L:List (List UInt8)),(∀s∈L,s.length<=2000000)->(L.headD []).length<=2000000:=fun L hL=>by
   cases L with
   | nil=>simp
   | cons a r=>exact hL a (List.mem_cons_self ..)
  have ht:∀(L:List (List UInt8)),(∀s∈L,s.length<=2000000)->∀s∈L.tail,s.length<=2000000:=fun L hL s hs=>hL s (List.mem_of_mem_tail hs);have a1:=ht _ ha;have a2:=ht _ a1;have a3:=ht _ a2;have a4:=ht _ a3;unfold DF;refine⟨by simp[aN],by simp[aN],hd _ ha,?_,?_,?_,?_,by simp[aN],by simp[aN]⟩
  all_goals dsimp only
  all_goals repeat' split
  all_goals first | exact hd _ (by assumption) | simp
 split at h
 ·cases h;exact⟨by simp[aN],by simp[aN],by simp[aN],by simp[aN,dx],by simp[aN,dx],by simp[aN],by simp[aN],by simp[aN],by simp[aN]⟩
 split at h
 ·obtain⟨x,h1,h⟩:=Option.bind_eq_some_iff.1 h;cases h;exact(kG (k:=3) (f:=f) (r:=x.2) (by unfold cj;rw[if_neg (by decide),if_neg (by decide),if_pos rfl];exact h1) hl).1
 split at h
 ·unfold kN at h;split at h
  ·obtain⟨x,h1,h⟩:=Option.bind_eq_some_iff.1 h;cases h;exact(kG (k:=9) (f:=0) (r:=x.2) (by rw[Gg];exact h1) hl).1
  split at h
  ·obtain⟨x,h1,h⟩:=Option.bind_eq_some_iff.1 h;cases h;exact(kG (k:=8) (f:=0) (r:=x.2) (by rw[Gf];exact h1) hl).1
  obtain⟨i,h1,h⟩:=Option.bind_eq_some_iff.1 h;obtain⟨w,h2,h⟩:=Option.bind_eq_some_iff.1 h;cases h;have ha:=nC (P:=fun s:List UInt8=>s.length<=2000000) (fun l x r h=>js h) _ _ _ h2;exact⟨by simp[aN],by simp[aN],by simp[aN],by simp[aN,dx],by simp[aN,dx],by simp[aN],by simp[aN],by simp[aN],ha⟩
 cases h;exact yT.zero k
section
attribute [local go_sem] Oper.semAt_some
theorem MC(W:World):(Instr.typeAssert (Value.iface 157 (Value.agg #[])) 20 157 true).run prog W=.ok (.tuple #[.agg #[],.bool true]) W:=by kernel_rfl
theorem MD(a b:Value)(w:World):
  CallsD prog 94 #[a,b] .returning w fun e u' w'=>e=.returned (.tuple #[])/\u'=.returning/\w=w':=by
 refine callsD_of_wpS func94 rfl fun c₀ cs hu=>?_;simp only[ntmps94,List.size_toArray,List.length_cons,List.length_nil,Nat.reduceAdd,Nat.reduceSub,Array.replicate_succ,Array.replicate_zero,List.push_toArray,List.append_toArray,List.nil_append,List.cons_append];apply wpS_seq;apply wpS_region;simp[wpOpsS,go_sem,recoverD,hu,ntmps94,Exit.thenS];refine wpS_of_wp ?_;go_wp2;refine⟨rfl,.returning,by cases c₀;simp_all,.tuple #[],results_none rfl _ _ _,rfl,rfl,rfl⟩
theorem ME(pb eb:Nat)(cs:Array Value)(z:Int)(w:World)(hs:cs.size=24)(h:ar w pb cs 52)(he:Boxed w eb 31 (.int .i64 z))(hne:pb≠eb):
  CallsD prog 94 #[.pointer (some ⟨pb,0,none⟩),.pointer (some ⟨eb,0,none⟩)] (.panicking mn) w fun e u' w'=>e=.returned (.tuple #[])/\u'=.panicking [{v:=LX,recovered:=true}]/\ar w' pb bF 52/\Boxed w' eb 31 (.int .i64 260)/\ak [pb,eb] w w':=by
 refine callsD_of_wpS func94 rfl fun c₀ cs' hu=>?_;simp only[ntmps94,List.size_toArray,List.length_cons,List.length_nil,Nat.reduceAdd,Nat.reduceSub,Array.replicate_succ,Array.replicate_zero,List.push_toArray,List.append_toArray,List.nil_append,List.cons_append];apply wpS_seq;apply wpS_region;simp[wpOpsS,go_sem,recoverD,hu,mn,ntmps94,Exit.thenS];refine wpS_of_wp ?_;have hb:=ar.alloc h (.cells #[] 157);have hx:=he.alloc (.cells #[] 157);have aV:Hid (∀v∈bF.toList,v.oneCell'=true):=af (Pk.one (aN 0) bo);unfold LX;have hta:=MC;have hl:=h.lt;have hl2:=he.lt;replace h:=af h;replace he:=af he;replace hs:=af hs;replace hu:=af hu;go_wp2_with (refine wS 52 24 rfl pb cs bF rfl rfl hb rfl hs.out aV.out ?_;intro w2 hw2 hr2;have k2:=(hr2.boxed (by simpa using fun e=>hne e.symm) hx);have k2c:=k2.cell;have k2f:=k2.frozen);have iU:ak [eb] w2 (w2.setCell ⟨eb,0,none⟩ (.int .i64 260)):=ak.setCell w2 _ (by simp) _;have H:ar (w2.setCell ⟨eb,0,none⟩ (.int .i64 260)) pb bF 52/\Boxed (w2.setCell ⟨eb,0,none⟩ (.int .i64 260)) eb 31 (.int .i64 260)/\ak [pb,eb] w (w2.setCell ⟨eb,0,none⟩ (.int .i64 260)):=
  ⟨hw2.aw iU (by simpa using hne),k2.set _,((ak.alloc [pb,eb] w _).trans (hr2.sub (by simp))).trans (iU.sub (by simp))⟩
 exact⟨rfl,_,rfl,.tuple #[],results_none rfl _ _ _,rfl,rfl,H⟩
end
section
attribute [local go_sem] Oper.semAt_some
structure fN (w:World)(pc:Array Value)(l:List UInt8)(v:Value)(W:World):Prop where
 low:Below (w.heap.size+1) (w.alloc (.cells pc 52)) W
 own:W.ownsRow (w.heap.size+1) 5 1 v l.length (bs l)
section
variable {w:World} {pc:Array Value} {l m:List UInt8} {v v':Value} {W W1 W2:World}
theorem fN.pk(h:fN w pc l v W):ar W w.heap.size pc 52:=(ar.new w pc 52).keep (h.low.block _ (by omega))
theorem fN.size(h:fN w pc l v W):w.heap.size+1<=W.heap.size:=by have:=h.low.size;simpa using this
theorem fN.ag(h:fN w pc l v W):Below w.heap.size w W:=((Below.refl w.heap.size w).alloc ah _).trans (h.low.mono (by omega))
theorem fN.step(h:fN w pc l v W)(hb:Below W.heap.size W W1):fN w pc l v W1:=⟨h.low.trans (hb.mono h.size),aB h.own hb⟩
theorem fN.app(h:fN w pc l v W)(how:W2.ownsRow (w.heap.size+1) 5 1 v' (l.length+m.length) (bs l++bs m))(hg:W.grownBy W2 v.ownBlock):fN w pc (l++m) v' W2:=
 ⟨h.low.grown hg h.size (fun y hy=>(h.own.lt y hy).1),by rw[List.length_append,lZ];exact how⟩
theorem fN.start(hb:Below (w.heap.size+1) (w.alloc (.cells pc 52)) W):fN w pc [] (.slice none 0 0) W:=⟨hb,World.ownsRow_nil _ _ _ _⟩
end
theorem kT{α:Type}(f:α->List UInt8)(l:List α)(k:Nat):((l.take k).flatMap f).length<=(l.flatMap f).length:=by
 conv=>rhs;rw[<-List.take_append_drop k l,List.flatMap_append,List.length_append]
 omega
theorem jX{α:Type}(f:α->List UInt8)(l:List α)(k:Nat){x:α}(h:l[k]?=some x):(l.take (k+1)).flatMap f=(l.take k).flatMap f++f x:=by rw[List.take_add_one,h,List.flatMap_append];simp
def Bt(p:Pk):List UInt8:=ay 2 p.id.toNat++(p.wants.flatMap cF++(p.codes.flatMap (fun c=>ay 1 c.toNat)++p.filters.flatMap aI))
theorem MF{p:Pk}(h:aZ p)(hk:4<=p.kind/\p.kind<=11):Bt p=bj p:=by
 have ha:=h.2;unfold aQ at ha;rw[if_neg (by omega),if_neg (by omega),if_neg (by omega)]at ha;unfold Bt;by_cases k8:p.kind=8
 ·rw[if_pos k8]at ha;have e1:p.codes=[]:=(congrArg Pk.codes ha).symm;have e2:p.filters=[]:=(congrArg Pk.filters ha).symm;rw[qy k8,e1,e2];simp
 rw[if_neg k8]at ha;by_cases k9:p.kind=9
 ·rw[if_pos k9]at ha;have e1:p.wants=[]:=(congrArg Pk.wants ha).symm;have e2:p.filters=[]:=(congrArg Pk.filters ha).symm;rw[qA k9,e1,e2];simp
 rw[if_neg k9]at ha;by_cases gI:p.kind=10
 ·rw[if_pos gI]at ha;have e1:p.wants=[]:=(congrArg Pk.wants ha).symm;have e2:p.codes=[]:=(congrArg Pk.codes ha).symm;rw[na gI,e1,e2];simp
 rw[if_neg gI,if_pos hk]at ha;have e1:p.wants=[]:=(congrArg Pk.wants ha).symm;have e2:p.codes=[]:=(congrArg Pk.codes ha).symm;have e3:p.filters=[]:=(congrArg Pk.filters ha).symm;rw[kA hk k8 k9 gI,e1,e2,e3];simp
theorem wrap_u8(n:Nat)(h:n<256):IntKind.u8.wrap (n:Int)=n:=by rw[IntKind.wrap_u8];omega
theorem rU{p:Pk}(h:aZ p)(hk:4<=p.kind/\p.kind<=11):(p.kind≠8->p.wants=[])/\(p.kind≠9->p.codes=[])/\(p.kind≠10->p.filters=[]):=by
 have ha:=h.2;unfold aQ at ha;rw[if_neg (by omega),if_neg (by omega),if_neg (by omega)]at ha;refine⟨fun k8=>?_,fun k9=>?_,fun gI=>?_⟩
 ·rw[if_neg k8]at ha
  repeat' split at ha
  all_goals exact(congrArg Pk.wants ha).symm
 ·by_cases k8:p.kind=8
  ·rw[if_pos k8]at ha;exact(congrArg Pk.codes ha).symm
  rw[if_neg k8,if_neg k9]at ha
  repeat' split at ha
  all_goals exact(congrArg Pk.codes ha).symm
 by_cases k8:p.kind=8
 ·rw[if_pos k8]at ha;exact(congrArg Pk.filters ha).symm
 by_cases k9:p.kind=9
 ·rw[if_neg k8,if_pos k9]at ha;exact(congrArg Pk.filters ha).symm
 rw[if_neg k8,if_neg k9,if_neg gI]at ha
 repeat' split at ha
 all_goals exact(congrArg Pk.filters ha).symm
structure mv (l:List UInt8)(w:World)(e:Ending)(w':World):Prop where
 ag:Below w.heap.size w w'
 out:∃v,e=.returned v/\w'.ownsRow w.heap.size 5 1 v l.length (bs l)
theorem pN{w w':World}{base e size n:Nat}{v:Value}{xs:List Value}{r:Option Nat}(h:w.ownsRow base e size v n xs)(hne:∀g,v.ownBlock=some g->r≠some g)(hg:w.grownBy w' r):w'.ownsRow base e size v n xs:=by
 obtain⟨hl,hx | ⟨g,cap,cur,rfl,hb,hh,hx⟩⟩:=h
 ·exact⟨hl,.inl hx⟩
 exact⟨hl,.inr ⟨g,cap,cur,rfl,hb,(hg.block g (Array.getElem?_eq_some_iff.1 hh).1 (fun e=>hne g rfl e.symm)).trans hh,hx⟩⟩
theorem I8(p:Pk)(h:H3)(w:World)(cd:p.In w h)(hr:aZ p)(hk:4<=p.kind/\p.kind<=11):Calls prog 87 #[.agg (p.cells h).toArray] w (mv (bj p) w):=by
 have hT:=af (MF hr hk);have hlen:=eU hr;rw[<-hT.out]at hlen ⊢;have acC:=mr hr hk;obtain⟨xd,vL⟩:=Int.eq_ofNat_of_zero_le (show 0<=p.id by omega);have Uf:xd<=65535:=by omega
 obtain⟨pc,bt⟩:=ae ((p.cells h).toArray);obtain⟨kd,dP⟩:=ae p.kind;have kc:Hid (∀W,ar W w.heap.size pc 52->W.cell? ⟨w.heap.size,0,none⟩=some (.int .i64 kd)/\W.cell? ⟨w.heap.size,6,none⟩=some (.int .i64 (xd:Int))/\W.cell? ⟨w.heap.size,21,none⟩=some (.slice h.w.a h.w.n h.w.c)/\W.cell? ⟨w.heap.size,22,none⟩=some (.slice h.c.a h.c.n h.c.c)/\W.cell? ⟨w.heap.size,23,none⟩=some (.slice h.f.a h.f.n h.f.c)):=af fun W hb=>by
  refine⟨?_,?_,?_,?_,?_⟩<;>rw[hb.cell,<-bt]
  ·rw[<-dP];rfl
  ·rw[<-vL];rfl
  ·rfl
  ·rfl
  rfl
 rw[bt];have S0:Hid (fN w pc [] (.slice none 0 0) (w.alloc (.cells pc 52))):=af (fN.start ai);have k0:=(kc _ S0.pk).1;have k6:=(kc _ S0.pk).2.1;rw[dP]at hk;have e1:(kd==1)=false:=by simpa using(show kd≠1 by omega)
 have e2:(kd==2)=false:=by simpa using(show kd≠2 by omega)
 have e3:(kd==3)=false:=by simpa using(show kd≠3 by omega)
 have e12:(kd==12)=false:=by simpa using(show kd≠12 by omega)
 have e13:(kd==13)=false:=by simpa using(show kd≠13 by omega)
 have e14:(kd==14)=false:=by simpa using(show kd≠14 by omega)
 have HI:=af cd;replace hlen:=af hlen;have AB:Hid (Bt p=ay 2 xd++(p.wants.flatMap cF++(p.codes.flatMap (fun c=>ay 1 c.toNat)++p.filters.flatMap aI))):=af (by unfold Bt;rw[vL];rfl);have WN:=af (rU hr (by rw[dP];exact hk)).1;have CN:=af (rU hr (by rw[dP];exact hk)).2.1;have FN:=af (rU hr (by rw[dP];exact hk)).2.2;have hwn:h.w.n<=1000:=by
  rw[<-cd.lw.len];by_cases k8:p.kind=8
  ·exact(od hr k8).1
  rw[WN k8];simp
 have zr:h.c.n<=1000:=by
  rw[<-cd.lc.len];by_cases k9:p.kind=9
  ·exact(og hr k9).1
  rw[CN k9];simp
 have hfn:h.f.n<=1000:=by
  rw[<-cd.lf.len];by_cases gI:p.kind=10
  ·exact(qP hr gI).1
  rw[FN gI];simp
 replace hr:=af hr;replace bt:=af bt;clear vL dP hk acC cd;have CT:=af (tS xd (w.alloc (.cells pc 52)) Uf);go_enter func87,ntmps87;go_wp2_with fail
 refine CT.mono ?_;rintro e w1 ⟨v1,rfl,ke,hb1⟩;obtain⟨a1,c1,rfl⟩:=aA ke;have S1:Hid (fN w pc (ay 2 xd) (.slice a1 2 c1) w1):=af ⟨S0.low.trans (hb1.mono (by simp)),by rw[aO];exact aT ke (by simp)⟩;clear ke hb1 k0 k6 S0;go_wp2_with fail;go_loopw [3,5] (fun v i wr=>∃k:Nat,i=.int .i64 k/\k<=h.w.n/\Hid (fN w pc (ay 2 xd++(p.wants.take k).flatMap cF) v wr)) (fun _ i _=>h.w.n-(intOf i).toNat)
 case atStart=>exact⟨0,by go_num,Nat.zero_le _,by simpa using S1⟩
 case round=>
  obtain⟨k,rfl,zH,hS⟩:=hrel;obtain⟨wx,hwx⟩:∃W,W=wr:=⟨_,rfl⟩;subst hwx;have k21:=(kc _ hS.out.pk).2.2.1;have QR:=(kc _ hS.out.pk).2.2.2.1;have Vg:=(kc _ hS.out.pk).2.2.2.2;clear S1;rcases Nat.lt_or_ge k h.w.n with hlt | jw
  ·obtain⟨x,hx⟩:∃x,p.wants[k]?=some x:=⟨_,List.getElem?_eq_getElem (by rw[HI.lw.len];exact hlt)⟩;obtain⟨g,off,ha,hrg⟩:=HI.lw.range hx;have fF:=(od hr.out (by apply Classical.byContradiction;intro k8;have:=congrArg List.length (WN k8);rw[HI.lw.len]at this;simp at this;omega)).2 x (List.mem_of_getElem? hx)
   obtain⟨qn,Gp⟩:=Int.eq_ofNat_of_zero_le fF.2.1;have Lg:qn<256:=by omega
   have QN:IntKind.u8.wrap (qn:Int)=(qn:Int):=wrap_u8 qn Lg;have mK:=af fF.1;have cL:=af (jX cF p.wants k hx);have Bu:Hid ((ay 2 xd++(p.wants.take (k+1)).flatMap cF).length<=5000):=af (by have h1:=hlen.out;rw[AB]at h1;have h2:=kT cF p.wants (k+1);simp only[List.length_append]at h1 ⊢;omega)
   obtain⟨L,hL⟩:=ae (ay 2 xd++(p.wants.take k).flatMap cF);have oP:Hid (ay 2 xd++(p.wants.take (k+1)).flatMap cF=L++(aI x.filter++[UInt8.ofNat qn])):=af (by rw[cL.out,<-hL,List.append_assoc];congr 2;unfold cF;rw[Gp];simp[ay,Nat.mod_eq_of_lt Lg])
   have Ce:Hid (L.length+(aI x.filter).length+1<=5000):=af (by have:=Bu.out;rw[oP]at this;simp only[List.length_append,List.length_singleton]at this;omega)
   have jy:x.cl=[.string ⟨x.filter.toArray⟩,.int .i64 (qn:Int)]:=by unfold bM.cl;rw[Gp]
   rw[hL]at hS;obtain⟨LL,oQ⟩:=ae L.length;obtain⟨TT,rZ⟩:=ae ((aI x.filter).length);have iP:=hS.out.own;rw[oQ]at iP;obtain⟨av,cv,rfl⟩:=aA iP;clear iP;have SD:=af (hS.out.step ai.drew);have oN:=hrg _ SD.ag;rw[jy]at oN;rw[oQ]at Ce;rw[rZ]at Ce;rw[jy]at hrg;have ha:=af ha;replace hL:=af hL;replace hx:=af hx;replace fF:=af fF;replace Gp:=af Gp;replace jy:=af jy;clear Bu cL hS;go_wp2_with fail;refine aH [(1000,fun w'=>ar w' w.heap.size pc 52),(1000,fun w'=>w'.rangeAt g (off+k*2) [.string ⟨x.filter.toArray⟩,.int .i64 (qn:Int)])] (by kernel_rfl) ⟨SD.pk,oN,trivial⟩ fun KQ aL=>?_;try simp only[PT]
   obtain⟨WD,di⟩:=ae wx.drew;rw[di]at SD oN ⊢;refine tQ [0,1] ?_;refine aG 2 rfl (by kernel_rfl) (by kernel_rfl) rfl rfl 0 rfl (by kernel_rfl) (.slice (some ⟨g,off,none⟩) h.w.n h.w.c) (fun w' hf=>by(have k0:=(kc _ hf).2.2.1;rw[ha.out]at k0;go_simp<;>with_reducible rfl)) ?_;simp only[PT];refine tQ [3,4,5] ?_;refine aG 6 rfl (by kernel_rfl) (by kernel_rfl) rfl rfl 1 rfl (by kernel_rfl) (.string ⟨x.filter.toArray⟩) (fun w' hf=>by(have k0:w'.cell? ⟨g,off+k*2,none⟩=some (.string ⟨x.filter.toArray⟩):=(by simpa using hf 0 _ rfl);go_simp<;>with_reducible rfl)) ?_;simp only[PT];refine tQ [9] ?_;refine aG 10 rfl (by kernel_rfl) (by kernel_rfl) rfl rfl 0 rfl (by kernel_rfl) (.slice (some ⟨g,off,none⟩) h.w.n h.w.c) (fun w' hf=>by(have k0:=(kc _ hf).2.2.1;rw[ha.out]at k0;go_simp<;>with_reducible rfl)) ?_;simp only[PT];refine tQ [11,12,13] ?_;refine aG 14 rfl (by kernel_rfl) (by kernel_rfl) rfl rfl 1 rfl (by kernel_rfl) (.int .i64 (qn:Int)) (fun w' hf=>by(have k0:=hf 1 _ rfl;go_simp<;>with_reducible rfl)) ?_;simp only[PT];refine tQ [15] ?_;have hsz:=SD.size;have MG:=af (fun W (hb:Below w.heap.size w W)=>hrg W hb);refine dM [7,16] (fun j hj=>?_);have hj:j=7\/j=16:=by simpa using hj
   rcases hj with rfl | rfl
   ·refine⟨⟨_,rfl,by kernel_rfl,fun K hK=>?_⟩⟩;go_simp;refine(fT x.filter WD mK.out).mono ?_;rintro e w2 ⟨u,rfl,hu,hb2⟩;have S2:=af (SD.step hb2);rw[rZ]at hu;obtain⟨au,cu,rfl⟩:=aA hu;refine hK _ _ ⟨⟨fun _=>S2.pk,fun _=>MG.out _ S2.ag,trivial⟩,?_⟩;clear hK K;try simp only[PT]
    refine dM [8,16] (fun j hj=>?_);have hj:j=8\/j=16:=by simpa using hj
    rcases hj with rfl | rfl
    ·refine⟨⟨_,rfl,by kernel_rfl,fun K hK=>?_⟩⟩;refine aR _ _ rfl Tryz.vF (by decide) (w.heap.size+1) _ LL _ rfl (by have h9:=S2.own;rw[oQ]at h9;exact h9) WD.heap.size _ TT _ rfl hu (eX _) (by have:=Ce.out;omega) (by have:=Ce.out;omega) S2.size fun v3 w3 qJ hg3 Vc=>?_;have S3:Hid (fN w pc (L++aI x.filter) v3 w3):=af (S2.app (by rw[oQ,rZ];exact qJ) hg3);refine hK _ _ ⟨⟨fun _=>S3.pk,fun _=>MG.out _ S3.ag,trivial⟩,?_⟩;clear hK K;try simp only[PT]
     have SN:=af (S3.step ((Below.refl w3.heap.size w3).alloc ah (.cells #[.int .u8 (qn:Int)] 5)));refine sQ 16 fun K hK=>?_;simp only[GO];go_simp;refine hK _ _ ⟨⟨fun _=>SN.pk,fun _=>MG.out _ SN.ag,trivial⟩,?_⟩;clear hK K;try simp only[PT]
     refine sQ 17 fun K hK=>?_;simp only[GO];refine aR _ _ rfl Tryz.vF (by decide) (w.heap.size+1) _ (LL+TT) _ rfl (by have h9:=SN.own;rw[List.length_append,oQ,rZ]at h9;exact h9) w3.heap.size _ 1 _ rfl (My (qn:Int) w3) (by intro u hu;simp at hu;subst hu;rfl) (by have:=Ce.out;omega) (by have:=Ce.out;omega) SN.size fun v4 w4 xL hg4 Qo=>?_;have S4:Hid (fN w pc (L++aI x.filter++[UInt8.ofNat qn]) v4 w4):=af (SN.app (by rw[List.length_append,oQ,rZ,List.length_singleton,show bs [UInt8.ofNat qn]=[.int .u8 (qn:Int)]from by unfold bs;simp only[List.map_cons,List.map_nil];rw[gv qn Lg]];exact xL) hg4);refine hK _ _ ⟨⟨fun _=>S4.pk,fun _=>MG.out _ S4.ag,trivial⟩,?_⟩;clear hK K;try simp only[PT]
     refine tQ [18] ?_;refine dQ (aL.out _ _ ?_);clear aL KQ;replace S4:Hid (fN w pc (ay 2 xd++(p.wants.take (k+1)).flatMap cF) v4 w4):=af (by rw[oP,<-List.append_assoc];exact S4.out);go_wp2_with fail
     refine⟨⟨k+1,by go_num,by omega,S4⟩,by simp[intOf];omega⟩
    refine⟨⟨_,rfl,by kernel_rfl,fun K hK=>?_⟩⟩;have rj:=(Below.refl w2.heap.size w2).alloc ah (.cells #[.int .u8 (qn:Int)] 5);have SN:=af (S2.step rj);have Gq:=aB hu rj;have mm:=My (qn:Int) w2;go_simp;refine hK _ _ ⟨⟨fun _=>SN.pk,fun _=>MG.out _ SN.ag,trivial⟩,?_⟩;clear hK K;try simp only[PT]
    refine sQ 8 fun K hK=>?_;simp only[GO];refine aR _ _ rfl Tryz.vF (by decide) (w.heap.size+1) _ LL _ rfl (by have h9:=SN.own;rw[oQ]at h9;exact h9) WD.heap.size _ TT _ rfl Gq (eX _) (by have:=Ce.out;omega) (by have:=Ce.out;omega) SN.size fun v3 w3 qJ hg3 Vc=>?_;have S3:Hid (fN w pc (L++aI x.filter) v3 w3):=af (SN.app (by rw[oQ,rZ];exact qJ) hg3);have MH:=pN mm (fun g hg e=>by have h1:=(S2.own.lt g e).2;have h2:w2.heap.size=g:=Option.some.inj hg;omega) hg3;refine hK _ _ ⟨⟨fun _=>S3.pk,fun _=>MG.out _ S3.ag,trivial⟩,?_⟩;clear hK K;try simp only[PT]
    refine sQ 17 fun K hK=>?_;simp only[GO];refine aR _ _ rfl Tryz.vF (by decide) (w.heap.size+1) _ (LL+TT) _ rfl (by have h9:=S3.own;rw[List.length_append,oQ,rZ]at h9;exact h9) w2.heap.size _ 1 _ rfl MH (by intro u hu;simp at hu;subst hu;rfl) (by have:=Ce.out;omega) (by have:=Ce.out;omega) S3.size fun v4 w4 xL hg4 Qo=>?_;have S4:Hid (fN w pc (L++aI x.filter++[UInt8.ofNat qn]) v4 w4):=af (S3.app (by rw[List.length_append,oQ,rZ,List.length_singleton,show bs [UInt8.ofNat qn]=[.int .u8 (qn:Int)]from by unfold bs;simp only[List.map_cons,List.map_nil];rw[gv qn Lg]];exact xL) hg4);refine hK _ _ ⟨⟨fun _=>S4.pk,fun _=>MG.out _ S4.ag,trivial⟩,?_⟩;clear hK K;try simp only[PT]
    refine tQ [18] ?_;refine dQ (aL.out _ _ ?_);clear aL KQ;replace S4:Hid (fN w pc (ay 2 xd++(p.wants.take (k+1)).flatMap cF) v4 w4):=af (by rw[oP,<-List.append_assoc];exact S4.out);go_wp2_with fail
    refine⟨⟨k+1,by go_num,by omega,S4⟩,by simp[intOf];omega⟩
   refine⟨⟨_,rfl,by kernel_rfl,fun K hK=>?_⟩⟩;have rj:=(Below.refl WD.heap.size WD).alloc ah (.cells #[.int .u8 (qn:Int)] 5);have SN:=af (SD.step rj);have mm:=My (qn:Int) WD;go_simp;refine hK _ _ ⟨⟨fun _=>SN.pk,fun _=>MG.out _ SN.ag,trivial⟩,?_⟩;clear hK K;try simp only[PT]
   obtain⟨WE,Ug⟩:=ae (WD.alloc (.cells #[.int .u8 (qn:Int)] 5));rw[Ug]at mm SN ⊢;refine sQ 7 fun K hK=>?_;simp only[GO];go_simp;refine(fT x.filter WE mK.out).mono ?_;rintro e w2 ⟨u,rfl,hu,hb2⟩;have S2:=af (SN.step hb2);have MH:=aB mm hb2;rw[rZ]at hu;obtain⟨au,cu,rfl⟩:=aA hu;refine hK _ _ ⟨⟨fun _=>S2.pk,fun _=>MG.out _ S2.ag,trivial⟩,?_⟩;clear hK K;try simp only[PT]
   refine sQ 8 fun K hK=>?_;simp only[GO];refine aR _ _ rfl Tryz.vF (by decide) (w.heap.size+1) _ LL _ rfl (by have h9:=S2.own;rw[oQ]at h9;exact h9) WE.heap.size _ TT _ rfl hu (eX _) (by have:=Ce.out;omega) (by have:=Ce.out;omega) S2.size fun v3 w3 qJ hg3 Vc=>?_;have S3:Hid (fN w pc (L++aI x.filter) v3 w3):=af (S2.app (by rw[oQ,rZ];exact qJ) hg3);have Yg:=pN MH (fun g hg e=>by have h1:=(SD.own.lt g e).2;have h2:WD.heap.size=g:=Option.some.inj hg;omega) hg3;refine hK _ _ ⟨⟨fun _=>S3.pk,fun _=>MG.out _ S3.ag,trivial⟩,?_⟩;clear hK K;try simp only[PT]
   refine sQ 17 fun K hK=>?_;simp only[GO];refine aR _ _ rfl Tryz.vF (by decide) (w.heap.size+1) _ (LL+TT) _ rfl (by have h9:=S3.own;rw[List.length_append,oQ,rZ]at h9;exact h9) WD.heap.size _ 1 _ rfl Yg (by intro u hu;simp at hu;subst hu;rfl) (by have:=Ce.out;omega) (by have:=Ce.out;omega) S3.size fun v4 w4 xL hg4 Qo=>?_;have S4:Hid (fN w pc (L++aI x.filter++[UInt8.ofNat qn]) v4 w4):=af (S3.app (by rw[List.length_append,oQ,rZ,List.length_singleton,show bs [UInt8.ofNat qn]=[.int .u8 (qn:Int)]from by unfold bs;simp only[List.map_cons,List.map_nil];rw[gv qn Lg]];exact xL) hg4);refine hK _ _ ⟨⟨fun _=>S4.pk,fun _=>MG.out _ S4.ag,trivial⟩,?_⟩;clear hK K;try simp only[PT]
   refine tQ [18] ?_;refine dQ (aL.out _ _ ?_);clear aL KQ;replace S4:Hid (fN w pc (ay 2 xd++(p.wants.take (k+1)).flatMap cF) v4 w4):=af (by rw[oP,<-List.append_assoc];exact S4.out);go_wp2_with fail
   refine⟨⟨k+1,by go_num,by omega,S4⟩,by simp[intOf];omega⟩
  obtain rfl:k=h.w.n:=by omega
  have Q4:p.wants.take h.w.n=p.wants:=List.take_of_length_le (by rw[HI.lw.len];exact Nat.le_refl _);rw[Q4]at hS;obtain⟨L,hL⟩:=ae (ay 2 xd++p.wants.flatMap cF);rw[hL]at hS;have hL:=af hL;clear Q4 jw zH;go_wp2_with fail;go_loopw [3,6] (fun v i wr=>∃k:Nat,i=.int .i64 k/\k<=h.c.n/\Hid (fN w pc (L++(p.codes.take k).flatMap (fun c=>ay 1 c.toNat)) v wr)) (fun _ i _=>h.c.n-(intOf i).toNat)
  case atStart=>exact⟨0,by go_num,Nat.zero_le _,by simpa using hS⟩
  case round=>
   obtain⟨k,rfl,zH,Fe⟩:=hrel;obtain⟨wy,XE⟩:∃W,W=wr:=⟨_,rfl⟩;subst XE;have QR:=(kc _ Fe.out.pk).2.2.2.1;clear hS k21 Vg;rcases Nat.lt_or_ge k h.c.n with hlt | jw
   ·obtain⟨x,hx⟩:∃x,p.codes[k]?=some x:=⟨_,List.getElem?_eq_getElem (by rw[HI.lc.len];exact hlt)⟩;obtain⟨g,off,ha,hrg⟩:=HI.lc.range hx;have fF:=(og hr.out (by apply Classical.byContradiction;intro k9;have:=congrArg List.length (CN k9);rw[HI.lc.len]at this;simp at this;omega)).2 x (List.mem_of_getElem? hx)
    obtain⟨zn,Ju⟩:=Int.eq_ofNat_of_zero_le fF.1;have FC:zn<256:=by omega
    have QN:IntKind.u8.wrap (zn:Int)=(zn:Int):=wrap_u8 zn FC;have cL:=jX (fun c:Int=>ay 1 c.toNat) p.codes k hx;have Bu:(L++(p.codes.take (k+1)).flatMap (fun c=>ay 1 c.toNat)).length<=5000:=by have h1:=hlen.out;rw[AB,<-List.append_assoc,hL.out]at h1;have h2:=kT (fun c:Int=>ay 1 c.toNat) p.codes (k+1);simp only[List.length_append]at h1 ⊢;omega
    obtain⟨L2,hL2⟩:=ae (L++(p.codes.take k).flatMap (fun c:Int=>ay 1 c.toNat));have oP:Hid (L++(p.codes.take (k+1)).flatMap (fun c=>ay 1 c.toNat)=L2++[UInt8.ofNat zn]):=af (by rw[cL,<-hL2,List.append_assoc,Ju];simp[ay,Nat.mod_eq_of_lt FC])
    rw[oP,List.length_append,List.length_singleton]at Bu;rw[hL2]at Fe;obtain⟨LL,oQ⟩:=ae L2.length;rw[oQ]at Bu;have kx:wy.cell? ⟨g,off+k,none⟩=some (.int .i64 (zn:Int)):=by have:=hrg wy Fe.out.ag 0 (.int .i64 x) rfl;rw[Ju]at this;simpa using this
    rw[ha]at QR;have iP:=Fe.out.own;rw[oQ]at iP;have Ei:=Fe.out.size;obtain⟨av,cv,rfl⟩:=aA iP;replace hL2:=af hL2;replace hx:=af hx;replace fF:=af fF;replace Ju:=af Ju;have oQ:=af oQ;clear cL hrg ha;go_wp2_with (at_builtin;refine dt rfl _ _ rfl Tryz.vF (w.heap.size+1) _ _ _ rfl iP (.int .u8 (zn:Int)) rfl rfl (by omega) (by omega) (by omega) ?_;intro v4 w4 xL hg4);have S4:Hid (fN w pc (L++(p.codes.take (k+1)).flatMap (fun c=>ay 1 c.toNat)) v4 w4):=af (by rw[oP];exact Fe.out.app (by rw[oQ.out,List.length_singleton,show bs [UInt8.ofNat zn]=[.int .u8 (zn:Int)]from by unfold bs;simp only[List.map_cons,List.map_nil];rw[gv zn FC]];exact xL) hg4)
    refine⟨⟨k+1,by go_num,by omega,S4⟩,by simp[intOf];omega⟩
   obtain rfl:k=h.c.n:=by omega
   have Q5:p.codes.take h.c.n=p.codes:=List.take_of_length_le (by rw[HI.lc.len];exact Nat.le_refl _);rw[Q5]at Fe;obtain⟨L2,hL2⟩:=ae (L++p.codes.flatMap (fun c:Int=>ay 1 c.toNat));rw[hL2]at Fe;have hL2:=af hL2;clear Q5 jw zH;go_wp2_with fail;go_loopw [3,7] (fun v i wr=>∃k:Nat,i=.int .i64 k/\k<=h.f.n/\Hid (fN w pc (L2++(p.filters.take k).flatMap aI) v wr)) (fun _ i _=>h.f.n-(intOf i).toNat)
   case atStart=>exact⟨0,by go_num,Nat.zero_le _,by simpa using Fe⟩
   case round=>
    obtain⟨k,rfl,zH,Fg⟩:=hrel;obtain⟨wz,hwz⟩:∃W,W=wr:=⟨_,rfl⟩;subst hwz;have Vg:=(kc _ Fg.out.pk).2.2.2.2;clear Fe QR;rcases Nat.lt_or_ge k h.f.n with hlt | jw
    ·obtain⟨x,hx⟩:∃x,p.filters[k]?=some x:=⟨_,List.getElem?_eq_getElem (by rw[HI.lf.len];exact hlt)⟩;obtain⟨g,off,ha,hrg⟩:=HI.lf.range hx;have fF:=af ((qP hr.out (by apply Classical.byContradiction;intro gI;have:=congrArg List.length (FN gI);rw[HI.lf.len]at this;simp at this;omega)).2 x (List.mem_of_getElem? hx))
     have cL:=jX aI p.filters k hx;have Bu:(L2++(p.filters.take (k+1)).flatMap aI).length<=5000:=by have h1:=hlen.out;rw[AB,<-List.append_assoc,hL.out,<-List.append_assoc,hL2.out]at h1;have h2:=kT aI p.filters (k+1);simp only[List.length_append]at h1 ⊢;omega
     obtain⟨L3,hL3⟩:=ae (L2++(p.filters.take k).flatMap aI);have oP:Hid (L2++(p.filters.take (k+1)).flatMap aI=L3++aI x):=af (by rw[cL,<-hL3,List.append_assoc]);rw[oP,List.length_append]at Bu;rw[hL3]at Fg;obtain⟨LL,oQ⟩:=ae L3.length;obtain⟨TT,rZ⟩:=ae ((aI x).length);rw[oQ,rZ]at Bu;have kx:wz.cell? ⟨g,off+k,none⟩=some (.string ⟨x.toArray⟩):=by have:=hrg wz Fg.out.ag 0 (.string ⟨x.toArray⟩) rfl;simpa using this
     rw[ha]at Vg;have iP:=Fg.out.own;rw[oQ]at iP;obtain⟨av,cv,rfl⟩:=aA iP;have CX:=af (fT x wz fF.out);replace hL3:=af hL3;replace hx:=af hx;replace oQ:=af oQ;clear cL hrg ha iP;go_wp2_with fail;refine CX.mono ?_;rintro e w5 ⟨u,rfl,hu,eF⟩;have S5:=af (Fg.out.step eF);rw[rZ]at hu;obtain⟨au,cu,rfl⟩:=aA hu;have iP:=S5.own;rw[oQ.out]at iP;have Ei:=S5.size;replace rZ:=af rZ;clear eF Fg kx Vg;go_wp2_with (at_builtin;refine wpList_plain rfl fun _ hK=>aR _ _ rfl Tryz.vF (by decide) (w.heap.size+1) _ LL _ rfl iP wz.heap.size _ TT _ rfl hu (eX _) (by omega) (by omega) Ei fun v6 w6 Yh xt hn6=>hK _ _ ?_);have S6:Hid (fN w pc (L2++(p.filters.take (k+1)).flatMap aI) v6 w6):=af (by rw[oP];exact S5.app (by rw[oQ.out,rZ.out];exact Yh) xt)
     refine⟨⟨k+1,by go_num,by omega,S6⟩,by simp[intOf];omega⟩
    obtain rfl:k=h.f.n:=by omega
    have Q6:p.filters.take h.f.n=p.filters:=List.take_of_length_le (by rw[HI.lf.len];exact Nat.le_refl _);rw[Q6]at Fg;have iK:L2++p.filters.flatMap aI=Bt p:=by rw[AB,<-List.append_assoc,hL.out,<-List.append_assoc,hL2.out]
    rw[iK]at Fg;clear Q6 jw zH iK;go_wp2_with fail;go_ret;exact⟨Fg.out.ag,_,rfl,aT (base':=w.heap.size) Fg.out.own (by omega)⟩
end
end Go.Proofs.YtkghejaimhoboaaGreatDoor
