/- Parts of the proof of ScriptTurns. -/
import Derived.Test.YtkghejaimhoboaaGreatDoorPk11
set_option linter.unusedSimpArgs false
set_option linter.unusedVariables false
set_option maxRecDepth 100000
set_option maxHeartbeats 8000000
namespace Go.Proofs.YtkghejaimhoboaaGreatDoor
open Go.RowKit Go.Shelf Go.Proofs.Tryz
def gQ(s:List UInt8)(most:Nat):Bool:=decide (s.length<=most)&&decide (cr s= -1)
def within(n lo hi:Int):Bool:=decide (lo<=n)&&decide (n<=hi)
def fJ(v:gp):Bool:=decide (v.topic=[])&&(decide (v.body=[])&&(decide (v.qos=0)&& !v.retain))
def oo(p:Pk):Bool:=
 gQ p.client 23&&(p.clean|| !p.client.isEmpty)&&within p.keep 0 65535
  &&((!p.hasWill&&fJ p.will)||(p.hasWill&&en p.will.topic&&decide (p.will.body.length<=2000)&&within p.will.qos 0 2))
  &&((p.hasUser&&gQ p.user 200)||(!p.hasUser&&p.user.isEmpty&& !p.hasPass))
  &&((p.hasPass&&decide (p.pass.length<=200))||(!p.hasPass&&p.pass.isEmpty))
def uY(p:Pk):Bool:=within p.code 0 5&&(decide (p.code=0)|| !p.present)
def fy(p:Pk):Bool:=en p.topic&&decide (p.body.length<=2000)&&within p.qos 0 2&&((decide (p.qos=0)&&decide (p.id=0)&& !p.dup)||(decide (0<p.qos)&&within p.id 1 65535))
def dL{α:Type}(l:List α)(is:α->Bool):Bool:=decide (1<=l.length)&&decide (l.length<=8)&&l.all is
def cI(x:bM):Bool:=bU x.filter&&within x.qos 0 2
def cY(c:Int):Bool:=within c 0 2||decide (c=128)
def bV(p:Pk):Bool:=
 if p.kind=1 then oo p else if p.kind=2 then uY p else if p.kind=3 then fy p
 else if p.kind=8 then within p.id 1 65535&&dL p.wants cI else if p.kind=9 then within p.id 1 65535&&dL p.codes cY else if p.kind=10 then within p.id 1 65535&&dL p.filters bU
 else if 4<=p.kind/\p.kind<=11 then within p.id 1 65535 else decide (12<=p.kind/\p.kind<=14)
def aN(k:Int):Pk:=⟨k,false,false,0,[],[],0,[],false,0,false,dx,false,false,[],[],false,0,[],[],[]⟩
def aQ(p:Pk):Pk:=
 if p.kind=1 then{aN 1 with client:=p.client,clean:=p.clean,keep:=p.keep,hasWill:=p.hasWill,will:=p.will,hasUser:=p.hasUser,hasPass:=p.hasPass,user:=p.user,pass:=p.pass}
 else if p.kind=2 then{aN 2 with present:=p.present,code:=p.code}
 else if p.kind=3 then{aN 3 with topic:=p.topic,body:=p.body,qos:=p.qos,retain:=p.retain,dup:=p.dup,id:=p.id}
 else if p.kind=8 then{aN 8 with id:=p.id,wants:=p.wants}else if p.kind=9 then{aN 9 with id:=p.id,codes:=p.codes}else if p.kind=10 then{aN 10 with id:=p.id,filters:=p.filters}
 else if 4<=p.kind/\p.kind<=11 then{aN p.kind with id:=p.id}else aN p.kind
def aZ(p:Pk):Prop:=bV p=true/\aQ p=p
def aY(b:Bool)(n:Nat):Nat:=if b then n else 0
def dT(p:Pk):Nat:=aY p.hasUser 128+aY p.hasPass 64+aY p.will.retain 32+aY p.hasWill 4+aY p.clean 2+8*p.will.qos.toNat
def cE(p:Pk):Nat:=if p.kind=3 then aY p.dup 8+aY p.retain 1+2*p.qos.toNat else if p.kind=6\/p.kind=8\/p.kind=10 then 2 else 0
def cF(x:bM):List UInt8:=aI x.filter++ay 1 x.qos.toNat
def gS:List UInt8:=[77,81,84,84]
def bj(p:Pk):List UInt8:=
 if p.kind=1 then aI gS++(ay 1 4++(ay 1 (dT p)++(ay 2 p.keep.toNat++(aI p.client++((if p.hasWill then aI p.will.topic++aI p.will.body else[])++((if p.hasUser then aI p.user else[])++(if p.hasPass then aI p.pass else[])))))))
 else if p.kind=2 then ay 1 (aY p.present 1)++ay 1 p.code.toNat
 else if p.kind=3 then aI p.topic++((if 0<p.qos then ay 2 p.id.toNat else[])++p.body)
 else if p.kind=8 then ay 2 p.id.toNat++p.wants.flatMap cF else if p.kind=9 then ay 2 p.id.toNat++p.codes.flatMap (fun c=>ay 1 c.toNat)else if p.kind=10 then ay 2 p.id.toNat++p.filters.flatMap aI
 else if 4<=p.kind/\p.kind<=11 then ay 2 p.id.toNat else[]
def dm{α:Type}(is:Bool)(z:α)(r:List UInt8->Option (α×List UInt8))(l:List UInt8):Option (α×List UInt8):=if is then r l else some (z,l)
def oq(l:List UInt8):Option ((List UInt8×List UInt8)×List UInt8):=(bC l).bind fun a=>(bC a.2).bind fun b=>some ((a.1,b.1),b.2)
def has(f n:Nat):Bool:=decide (f / n%2=1)
def oK(l:List UInt8):Option (Pk×List UInt8):=
 (bC l).bind fun a=>if a.1≠gS then none else(aX 1 a.2).bind fun v=>if v.1≠4 then none else(aX 1 v.2).bind fun f=>(aX 2 f.2).bind fun k=>(bC k.2).bind fun c=>
  (dm (has f.1 4) ([],[]) oq c.2).bind fun wl=>(dm (has f.1 128) [] bC wl.2).bind fun u=>(dm (has f.1 64) [] bC u.2).bind fun s=>
   let p:Pk:={aN 1 with hasUser:=has f.1 128,hasPass:=has f.1 64,hasWill:=has f.1 4,clean:=has f.1 2,keep:=(k.1:Int),client:=c.1,will:=⟨wl.1.1,wl.1.2,((f.1 / 8%4:Nat):Int),has f.1 32⟩,user:=u.1,pass:=s.1}
   if f.1=dT p then some (p,s.2)else none
theorem qu(u s r w c:Bool)(q:Nat)(hq:q<4):has (aY u 128+aY s 64+aY r 32+aY w 4+aY c 2+8*q) 128=u/\has (aY u 128+aY s 64+aY r 32+aY w 4+aY c 2+8*q) 64=s/\has (aY u 128+aY s 64+aY r 32+aY w 4+aY c 2+8*q) 32=r
  /\has (aY u 128+aY s 64+aY r 32+aY w 4+aY c 2+8*q) 4=w/\has (aY u 128+aY s 64+aY r 32+aY w 4+aY c 2+8*q) 2=c/\(aY u 128+aY s 64+aY r 32+aY w 4+aY c 2+8*q) / 8%4=q/\aY u 128+aY s 64+aY r 32+aY w 4+aY c 2+8*q<256:=by
 have h:q=0\/q=1\/q=2\/q=3:=by omega
 rcases h with rfl | rfl | rfl | rfl<;>cases u<;>cases s<;>cases r<;>cases w<;>cases c<;>decide
theorem KL{a b:List UInt8}(ha:a.length<65536)(hb:b.length<65536)(r:List UInt8):oq (aI a++(aI b++r))=some ((a,b),r):=by unfold oq;rw[dJ a ha,Option.bind_some,dJ b hb,Option.bind_some]
theorem Hh{l r:List UInt8}{a b:List UInt8}(h:oq l=some ((a,b),r)):l=aI a++(aI b++r):=by
 unfold oq at h;cases h1:bC l with
 | none=>rw[h1]at h;cases h
 | some x=>
  rw[h1,Option.bind_some]at h;cases h2:bC x.2 with
  | none=>rw[h2]at h;cases h
  |some y=>rw[h2,Option.bind_some]at h;cases h;rw[(cg h1).1,(cg h2).1]
theorem ez{s:List UInt8}(h:en s=true):s.length<=200:=by unfold en dp at h;simp only[Bool.and_eq_true,decide_eq_true_eq]at h;exact h.1.1.2
theorem dU{s:List UInt8}{m:Nat}(h:gQ s m=true):s.length<=m:=by unfold gQ at h;simp only[Bool.and_eq_true,decide_eq_true_eq]at h;exact h.1
theorem within_iff{n lo hi:Int}:within n lo hi=true↔lo<=n/\n<=hi:=by simp[within]
theorem iG{p:Pk}(h:oo p=true):gQ p.client 23=true/\(0<=p.keep/\p.keep<=65535)
  /\((p.hasWill=false/\p.will=dx)\/(p.hasWill=true/\en p.will.topic=true/\p.will.body.length<=2000/\0<=p.will.qos/\p.will.qos<=2))
  /\((p.hasUser=true/\gQ p.user 200=true)\/(p.hasUser=false/\p.user=[]))
  /\((p.hasPass=true/\p.pass.length<=200)\/(p.hasPass=false/\p.pass=[])):=by
 unfold oo at h;simp only[Bool.and_eq_true,Bool.or_eq_true,Bool.not_eq_true',decide_eq_true_eq,within_iff,List.isEmpty_iff]at h;obtain⟨⟨⟨⟨⟨h1, -⟩,h2⟩,h3⟩,h4⟩,h5⟩:=h;refine⟨h1,h2,?_,?_,h5⟩
 ·rcases h3 with⟨a,b⟩ | ⟨⟨⟨a,b⟩,c⟩,d⟩
  ·refine .inl ⟨a,?_⟩;unfold fJ at b;simp only[Bool.and_eq_true,decide_eq_true_eq,Bool.not_eq_true']at b;obtain⟨b1,b2,b3,b4⟩:=b;cases hw:p.will;rw[hw]at b1 b2 b3 b4;dsimp only at b1 b2 b3 b4;subst b1 b2 b3 b4;rfl
  exact .inr ⟨a,b,c,d⟩
 rcases h4 with⟨a,b⟩ | ⟨⟨a,b⟩, -⟩
 ·exact .inl ⟨a,b⟩
 exact .inr ⟨a,b⟩
theorem Dy{p:Pk}(h:aZ p)(hk:p.kind=1)(r:List UInt8):oK (bj p++r)=some (p,r):=by
 obtain⟨hm,ha⟩:=h;have hm:oo p=true:=by unfold bV at hm;rwa [if_pos hk]at hm
 obtain⟨h1,h2,h3,h4,h5⟩:=iG hm;have hc:=dU h1;have hq:p.will.qos.toNat<4:=by
  rcases h3 with⟨-,e⟩ | ⟨-, -, -,e1,e2⟩
  ·rw[e];decide
  omega
 have oF:0<=p.will.qos:=by
  rcases h3 with⟨-,e⟩ | ⟨-, -, -,e1,e2⟩
  ·rw[e];decide
  omega
 obtain⟨b1,b2,b3,b4,b5,b6,b7⟩:=qu p.hasUser p.hasPass p.will.retain p.hasWill p.clean p.will.qos.toNat hq;have hN:dT p=aY p.hasUser 128+aY p.hasPass 64+aY p.will.retain 32+aY p.hasWill 4+aY p.clean 2+8*p.will.qos.toNat:=rfl;rw[<-hN]at b1 b2 b3 b4 b5 b6 b7;have e1:∀r,dm (has (dT p) 4) ([],[]) oq ((if p.hasWill then aI p.will.topic++aI p.will.body else[])++r)=some ((p.will.topic,p.will.body),r):=by
  intro r;rw[b4];rcases h3 with⟨e,f⟩ | ⟨e,f,g, -⟩
  ·rw[e,f];rfl
  rw[e];have:=ez f;simp only[dm,if_true,List.append_assoc];exact KL (by omega) (by omega) r
 have e2:∀r,dm (has (dT p) 128) [] bC ((if p.hasUser then aI p.user else[])++r)=some (p.user,r):=by
  intro r;rw[b1];rcases h4 with⟨e,f⟩ | ⟨e,f⟩
  ·rw[e];have:=dU f;simp only[dm,if_true];exact dJ _ (by omega) r
  rw[e,f];rfl
 have e3:∀r,dm (has (dT p) 64) [] bC ((if p.hasPass then aI p.pass else[])++r)=some (p.pass,r):=by
  intro r;rw[b2];rcases h5 with⟨e,f⟩ | ⟨e,f⟩
  ·rw[e];simp only[dm,if_true];exact dJ _ (by omega) r
  rw[e,f];rfl
 have rH:aQ p={aN 1 with client:=p.client,clean:=p.clean,keep:=p.keep,hasWill:=p.hasWill,will:=p.will,hasUser:=p.hasUser,hasPass:=p.hasPass,user:=p.user,pass:=p.pass}:=by unfold aQ;rw[if_pos hk]
 unfold bj oK;rw[if_pos hk];simp only[List.append_assoc];rw[dJ gS (by decide),Option.bind_some];dsimp only;rw[if_neg (by simp),cD 1 4 (by decide),Option.bind_some];dsimp only;rw[if_neg (by simp),cD 1 _ (by simpa using b7),Option.bind_some];dsimp only;rw[cD 2 _ (by have:=h2;omega),Option.bind_some];dsimp only;rw[dJ _ (by omega),Option.bind_some];dsimp only;rw[e1,Option.bind_some];dsimp only;rw[e2,Option.bind_some];dsimp only;rw[e3,Option.bind_some];dsimp only;have hp:({aN 1 with hasUser:=has (dT p) 128,hasPass:=has (dT p) 64,hasWill:=has (dT p) 4,clean:=has (dT p) 2,keep:=(p.keep.toNat:Int),client:=p.client,will:=⟨p.will.topic,p.will.body,((dT p / 8%4:Nat):Int),has (dT p) 32⟩,user:=p.user,pass:=p.pass}:Pk)=p:=by rw[b1,b2,b3,b4,b5,b6,Int.toNat_of_nonneg h2.1,Int.toNat_of_nonneg oF];exact rH.symm.trans ha
 rw[hp,if_pos rfl]
theorem Dz{l r:List UInt8}{p:Pk}(h:oK l=some (p,r)):l=bj p++r/\p.kind=1:=by
 unfold oK at h;cases h1:bC l with
 | none=>rw[h1]at h;cases h
 | some a=>
 rw[h1,Option.bind_some]at h;split at h
 ·cases h
 rename_i ha;simp only[ne_eq,Decidable.not_not]at ha;cases h2:aX 1 a.2 with
 | none=>rw[h2]at h;cases h
 | some v=>
 rw[h2,Option.bind_some]at h;split at h
 ·cases h
 rename_i hv;simp only[ne_eq,Decidable.not_not]at hv;cases h3:aX 1 v.2 with
 | none=>rw[h3]at h;cases h
 | some f=>
 rw[h3,Option.bind_some]at h;cases h4:aX 2 f.2 with
 | none=>rw[h4]at h;cases h
 | some k=>
 rw[h4,Option.bind_some]at h;cases h5:bC k.2 with
 | none=>rw[h5]at h;cases h
 | some c=>
 rw[h5,Option.bind_some]at h;cases h6:dm (has f.1 4) ([],[]) oq c.2 with
 | none=>rw[h6]at h;cases h
 | some wl=>
 rw[h6,Option.bind_some]at h;cases h7:dm (has f.1 128) [] bC wl.2 with
 | none=>rw[h7]at h;cases h
 | some u=>
 rw[h7,Option.bind_some]at h;cases h8:dm (has f.1 64) [] bC u.2 with
 | none=>rw[h8]at h;cases h
 | some s=>
 rw[h8,Option.bind_some]at h;dsimp only at h;split at h
 ·rename_i hf;simp only[Option.some.injEq,Prod.mk.injEq]at h;obtain⟨hp,hs⟩:=h;refine⟨?_,by rw[<-hp];rfl⟩;rw[hp]at hf;have g1:=(cg h1).1;have g2:=(bN h2).1;have g3:=(bN h3).1;have g4:=(bN h4).1;have g5:=(cg h5).1;have g6:c.2=(if has f.1 4 then aI wl.1.1++aI wl.1.2 else[])++wl.2:=by
   unfold dm at h6;cases hb:has f.1 4 with
   | false=>rw[hb]at h6;simp at h6;rw[<-h6];simp
   | true=>rw[hb]at h6;simp at h6;rw[Hh (a:=wl.1.1) (b:=wl.1.2) (r:=wl.2) h6];simp[List.append_assoc]
  have g7:wl.2=(if has f.1 128 then aI u.1 else[])++u.2:=by
   unfold dm at h7;cases hb:has f.1 128 with
   | false=>rw[hb]at h7;simp at h7;rw[<-h7];simp
   | true=>rw[hb]at h7;simp at h7;simpa using(cg (s:=u.1) (r:=u.2) h7).1
  have g8:u.2=(if has f.1 64 then aI s.1 else[])++s.2:=by
   unfold dm at h8;cases hb:has f.1 64 with
   | false=>rw[hb]at h8;simp at h8;rw[<-h8];simp
   | true=>rw[hb]at h8;simp at h8;simpa using(cg (s:=s.1) (r:=s.2) h8).1
  have kk:p.kind=1:=by rw[<-hp];rfl
  have e1:p.hasWill=has f.1 4:=by rw[<-hp]
  have e2:p.hasUser=has f.1 128:=by rw[<-hp]
  have e3:p.hasPass=has f.1 64:=by rw[<-hp]
  have e4:p.will.topic=wl.1.1/\p.will.body=wl.1.2:=by rw[<-hp];exact⟨rfl,rfl⟩
  have e5:p.user=u.1/\p.pass=s.1/\p.client=c.1/\p.keep.toNat=k.1:=by rw[<-hp];exact⟨rfl,rfl,rfl,by simp⟩
  unfold bj;rw[if_pos kk,e1,e2,e3,e4.1,e4.2,e5.1,e5.2.1,e5.2.2.1,e5.2.2.2,<-hf,<-hs,g1,g2,g3,g4,g5,g6,g7,g8,ha,hv];simp only[List.append_assoc]
 cases h
def qw(l:List UInt8):Option (Pk×List UInt8):=
 (aX 1 l).bind fun a=>if 1<a.1 then none else(aX 1 a.2).bind fun c=>some ({aN 2 with present:=decide (a.1=1),code:=(c.1:Int)},c.2)
def jm(f:Nat)(l:List UInt8):Option (Pk×List UInt8):=
 (bC l).bind fun t=>(dm (decide (0<f / 2%4)) 0 (aX 2) t.2).bind fun i=>some ({aN 3 with dup:=has f 8,retain:=has f 1,qos:=((f / 2%4:Nat):Int),topic:=t.1,id:=(i.1:Int),body:=i.2},[])
def cx{α:Type}(take:List UInt8->Option (α×List UInt8)):Nat->List UInt8->Option (List α)
 | 0,l=>if l=[]then some []else none
 | n+1,l=>if l=[]then some []else(take l).bind fun x=>(cx take n x.2).bind fun r=>some (x.1::r)
def dB(l:List UInt8):Option (bM×List UInt8):=(bC l).bind fun t=>(aX 1 t.2).bind fun q=>some (⟨t.1,(q.1:Int)⟩,q.2)
def cm(l:List UInt8):Option (Int×List UInt8):=(aX 1 l).bind fun c=>some ((c.1:Int),c.2)
def l5(l:List UInt8):Option (Pk×List UInt8):=(aX 2 l).bind fun i=>(cx dB i.2.length i.2).bind fun w=>some ({aN 8 with id:=(i.1:Int),wants:=w},[])
def l6(l:List UInt8):Option (Pk×List UInt8):=(aX 2 l).bind fun i=>(cx cm i.2.length i.2).bind fun w=>some ({aN 9 with id:=(i.1:Int),codes:=w},[])
def l7(l:List UInt8):Option (Pk×List UInt8):=(aX 2 l).bind fun i=>(cx bC i.2.length i.2).bind fun w=>some ({aN 10 with id:=(i.1:Int),filters:=w},[])
def m7(k:Int)(l:List UInt8):Option (Pk×List UInt8):=(aX 2 l).bind fun i=>some ({aN k with id:=(i.1:Int)},i.2)
def cj(k:Int)(f:Nat)(l:List UInt8):Option (Pk×List UInt8):=
 if k=1 then oK l else if k=2 then qw l else if k=3 then jm f l else if k=8 then l5 l else if k=9 then l6 l else if k=10 then l7 l
 else if 4<=k/\k<=11 then m7 k l else some (aN k,l)
theorem ll{α:Type}(take:List UInt8->Option (α×List UInt8))(enc:α->List UInt8)(may:α->Prop)(h:∀x r,may x->take (enc x++r)=some (x,r))(hne:∀x,enc x≠[]):∀(xs:List α)(n:Nat),(∀x∈xs,may x)->(xs.flatMap enc).length<=n->cx take n (xs.flatMap enc)=some xs
 | [],n,_,_=>by cases n<;>simp[cx]
 |x::xs,n,hm,hn=>by have h0:=List.length_pos_iff.2 (hne x);rw[List.flatMap_cons,List.length_append]at hn;obtain⟨m,rfl⟩:∃m,n=m+1:=⟨n-1,by omega⟩;rw[List.flatMap_cons,cx,if_neg (by simp[hne x]),h x _ (hm x (List.mem_cons_self ..)),Option.bind_some];dsimp only;rw[ll take enc may h hne xs m (fun y hy=>hm y (List.mem_cons_of_mem _ hy)) (by omega),Option.bind_some]
theorem lr{α:Type}(take:List UInt8->Option (α×List UInt8))(enc:α->List UInt8)(h:∀l x r,take l=some (x,r)->l=enc x++r):∀(n:Nat)(l:List UInt8)(xs:List α),cx take n l=some xs->l=xs.flatMap enc
 |0,l,xs,e=>by
  unfold cx at e;split at e
  ·cases e;assumption
  cases e
 | n+1,l,xs,e=>by
  unfold cx at e;split at e
  ·cases e;assumption
  cases h1:take l with
  | none=>rw[h1]at e;cases e
  | some x=>
   rw[h1,Option.bind_some]at e;cases h2:cx take n x.2 with
   | none=>rw[h2]at e;cases e
   |some r=>rw[h2,Option.bind_some]at e;cases e;rw[List.flatMap_cons,<-lr take enc h n x.2 r h2,<-h l x.1 x.2 h1]
theorem Fm(s:List UInt8):aI s≠[]:=by intro h;have:=congrArg List.length h;rw[aI,List.length_append,aO]at this;simp at this
theorem Aj(n:Nat):ay 1 n≠[]:=by intro h;have:=congrArg List.length h;rw[aO]at this;simp at this
theorem Oq{x:bM}(h:cI x=true)(r:List UInt8):dB (cF x++r)=some (x,r):=by
 unfold cI at h;simp only[Bool.and_eq_true,within_iff]at h;have hl:x.filter.length<=200:=by have:=h.1;unfold bU dp at this;simp only[Bool.and_eq_true,decide_eq_true_eq]at this;exact this.2.1.2
 unfold dB cF;rw[List.append_assoc,dJ _ (by omega),Option.bind_some];dsimp only;rw[cD 1 _ (by have:=h.2;omega),Option.bind_some];dsimp only;rw[Int.toNat_of_nonneg h.2.1]
theorem u1{l r:List UInt8}{x:bM}(h:dB l=some (x,r)):l=cF x++r:=by
 unfold dB at h;cases h1:bC l with
 | none=>rw[h1]at h;cases h
 | some t=>
  rw[h1,Option.bind_some]at h;cases h2:aX 1 t.2 with
  | none=>rw[h2]at h;cases h
  |some q=>rw[h2,Option.bind_some]at h;cases h;unfold cF;rw[(cg h1).1,(bN h2).1,List.append_assoc];simp
theorem Ot{c:Int}(h:cY c=true)(r:List UInt8):cm (ay 1 c.toNat++r)=some (c,r):=by unfold cY at h;simp only[Bool.or_eq_true,within_iff,decide_eq_true_eq]at h;unfold cm;rw[cD 1 _ (by omega),Option.bind_some];dsimp only;rw[Int.toNat_of_nonneg (by omega)]
theorem l8{l r:List UInt8}{c:Int}(h:cm l=some (c,r)):l=ay 1 c.toNat++r:=by
 unfold cm at h;cases h1:aX 1 l with
 | none=>rw[h1]at h;cases h
 |some t=>rw[h1,Option.bind_some]at h;cases h;rw[(bN h1).1];simp
theorem fA{α:Type}{l:List α}{is:α->Bool}(h:dL l is=true):∀x∈l,is x=true:=by unfold dL at h;simp only[Bool.and_eq_true]at h;exact List.all_eq_true.1 h.2
theorem KN(d r:Bool)(q:Nat)(hq:q<4):has (aY d 8+aY r 1+2*q) 8=d/\has (aY d 8+aY r 1+2*q) 1=r/\(aY d 8+aY r 1+2*q) / 2%4=q/\aY d 8+aY r 1+2*q<16:=by
 have h:q=0\/q=1\/q=2\/q=3:=by omega
 rcases h with rfl | rfl | rfl | rfl<;>cases d<;>cases r<;>decide
theorem dH{p:Pk}(h:aZ p):1<=p.kind/\p.kind<=14:=by
 have hm:=h.1;unfold bV at hm
 repeat' split at hm
 all_goals first | omega | (simp at hm;omega)
theorem mb{p:Pk}(h:aZ p):cj p.kind (cE p) (bj p)=some (p,[]):=by
 have hk:=dH h;by_cases k1:p.kind=1
 ·have:=Dy h k1 [];rw[List.append_nil]at this;unfold cj;rw[if_pos k1,this]
 obtain⟨hm,ha⟩:=h;unfold bV at hm;unfold aQ at ha;unfold cj bj cE;rw[if_neg k1]at hm ha ⊢;rw[if_neg k1];by_cases k2:p.kind=2
 ·rw[if_pos k2]at hm ha ⊢;rw[if_pos k2];unfold uY at hm;simp only[Bool.and_eq_true,within_iff]at hm;have hb:aY p.present 1<256^1/\¬1<aY p.present 1/\decide (aY p.present 1=1)=p.present:=by cases p.present<;>decide
  unfold qw;rw[cD 1 _ hb.1,Option.bind_some];dsimp only;rw[if_neg hb.2.1,show ay 1 p.code.toNat=ay 1 p.code.toNat++[] by simp,cD 1 _ (by have:=hm.1;omega),Option.bind_some];dsimp only;rw[hb.2.2,Int.toNat_of_nonneg hm.1.1,ha]
 rw[if_neg k2]at hm ha ⊢;rw[if_neg k2];by_cases k3:p.kind=3
 ·rw[if_pos k3]at hm ha ⊢;rw[if_pos k3,if_pos k3];unfold fy at hm;simp only[Bool.and_eq_true,Bool.or_eq_true,decide_eq_true_eq,within_iff,Bool.not_eq_true']at hm;obtain⟨⟨⟨m1,m2⟩,m3⟩,m4⟩:=hm;have hl:=ez m1;obtain⟨b1,b2,b3, -⟩:=KN p.dup p.retain p.qos.toNat (by omega);unfold jm;rw[dJ _ (by omega),Option.bind_some];dsimp only;rw[b1,b2,b3];have e1:dm (decide (0<p.qos.toNat)) 0 (aX 2) ((if 0<p.qos then ay 2 p.id.toNat else[])++p.body)=some (p.id.toNat,p.body):=by
   unfold dm;by_cases hq:0<p.qos
   ·rw[if_pos hq,decide_eq_true (by omega),if_pos rfl,cD 2 _ (by omega)]
   rw[if_neg hq,decide_eq_false (by omega)];rcases m4 with⟨⟨-,e⟩, -⟩ | ⟨e, -⟩
   ·rw[e];rfl
   omega
  rw[e1,Option.bind_some];dsimp only;rw[Int.toNat_of_nonneg m3.1,Int.toNat_of_nonneg (by omega),ha]
 rw[if_neg k3]at hm ha ⊢;rw[if_neg k3];have af:within p.id 1 65535=true->(∀r,aX 2 (ay 2 p.id.toNat++r)=some (p.id.toNat,r))/\(p.id.toNat:Int)=p.id:=fun h=>by rw[within_iff]at h;exact⟨fun r=>cD 2 _ (by omega) r,Int.toNat_of_nonneg (by omega)⟩
 by_cases k8:p.kind=8
 ·rw[if_pos k8]at hm ha ⊢;rw[if_pos k8];simp only[Bool.and_eq_true]at hm;obtain⟨i1,i2⟩:=af hm.1;unfold l5;rw[i1,Option.bind_some];dsimp only;rw[ll dB cF (fun x=>cI x=true) (fun x r hx=>Oq hx r) (fun x h=>Fm x.filter (List.append_eq_nil_iff.1 h).1) _ _ (fA hm.2) ah,Option.bind_some,i2,ha]
 rw[if_neg k8]at hm ha ⊢;rw[if_neg k8];by_cases k9:p.kind=9
 ·rw[if_pos k9]at hm ha ⊢;rw[if_pos k9];simp only[Bool.and_eq_true]at hm;obtain⟨i1,i2⟩:=af hm.1;unfold l6;rw[i1,Option.bind_some];dsimp only;rw[ll cm (fun c=>ay 1 c.toNat) (fun x=>cY x=true) (fun x r hx=>Ot hx r) (fun x h=>Aj _ h) _ _ (fA hm.2) ah,Option.bind_some,i2,ha]
 rw[if_neg k9]at hm ha ⊢;rw[if_neg k9];by_cases gI:p.kind=10
 ·rw[if_pos gI]at hm ha ⊢;rw[if_pos gI];simp only[Bool.and_eq_true]at hm;obtain⟨i1,i2⟩:=af hm.1;unfold l7;rw[i1,Option.bind_some];dsimp only;rw[ll bC aI (fun x=>bU x=true) (fun x r hx=>dJ x (by unfold bU dp at hx;simp only[Bool.and_eq_true,decide_eq_true_eq]at hx;have:=hx.2.1.2;omega) r) (fun x h=>Fm _ h) _ _ (fA hm.2) ah,Option.bind_some,i2,ha]
 rw[if_neg gI]at hm ha ⊢;rw[if_neg gI];by_cases k4:4<=p.kind/\p.kind<=11
 ·rw[if_pos k4]at hm ha ⊢;rw[if_pos k4];obtain⟨i1,i2⟩:=af hm;unfold m7;have:=i1 [];rw[List.append_nil]at this;rw[this,Option.bind_some];dsimp only;rw[i2,ha]
 rw[if_neg k4]at hm ha ⊢;rw[if_neg k4,ha]
theorem qx{p:Pk}(h:p.kind=2):bj p=ay 1 (aY p.present 1)++ay 1 p.code.toNat:=by unfold bj;rw[if_neg (by omega),if_pos h]
theorem tI{p:Pk}(h:p.kind=3):bj p=aI p.topic++((if 0<p.qos then ay 2 p.id.toNat else[])++p.body):=by unfold bj;rw[if_neg (by omega),if_neg (by omega),if_pos h]
theorem qy{p:Pk}(h:p.kind=8):bj p=ay 2 p.id.toNat++p.wants.flatMap cF:=by unfold bj;rw[if_neg (by omega),if_neg (by omega),if_neg (by omega),if_pos h]
theorem qA{p:Pk}(h:p.kind=9):bj p=ay 2 p.id.toNat++p.codes.flatMap (fun c=>ay 1 c.toNat):=by unfold bj;rw[if_neg (by omega),if_neg (by omega),if_neg (by omega),if_neg (by omega),if_pos h]
theorem na{p:Pk}(h:p.kind=10):bj p=ay 2 p.id.toNat++p.filters.flatMap aI:=by unfold bj;rw[if_neg (by omega),if_neg (by omega),if_neg (by omega),if_neg (by omega),if_neg (by omega),if_pos h]
theorem kA{p:Pk}(h:4<=p.kind/\p.kind<=11)(h8:p.kind≠8)(h9:p.kind≠9)(h10:p.kind≠10):bj p=ay 2 p.id.toNat:=by unfold bj;rw[if_neg (by omega),if_neg (by omega),if_neg (by omega),if_neg h8,if_neg h9,if_neg h10,if_pos h]
theorem kB{p:Pk}(h1:p.kind≠1)(h2:p.kind≠2)(h3:p.kind≠3)(h8:p.kind≠8)(h9:p.kind≠9)(h10:p.kind≠10)(h:¬(4<=p.kind/\p.kind<=11)):bj p=[]:=by unfold bj;rw[if_neg h1,if_neg h2,if_neg h3,if_neg h8,if_neg h9,if_neg h10,if_neg h]
theorem u7{k:Int}{f:Nat}{l:List UInt8}{p:Pk}(h:cj k f l=some (p,[])):l=bj p/\p.kind=k:=by
 unfold cj at h;by_cases k1:k=1
 ·rw[if_pos k1]at h;obtain⟨a,b⟩:=Dz h;rw[List.append_nil]at a;exact⟨a,b.trans k1.symm⟩
 rw[if_neg k1]at h;by_cases k2:k=2
 ·rw[if_pos k2]at h;unfold qw at h;cases h1:aX 1 l with
  | none=>rw[h1]at h;cases h
  | some a=>
   rw[h1,Option.bind_some]at h;split at h
   ·cases h
   rename_i ha;cases h2:aX 1 a.2 with
   | none=>rw[h2]at h;cases h
   | some c=>
    rw[h2,Option.bind_some]at h;simp only[Option.some.injEq,Prod.mk.injEq]at h;obtain⟨rfl,hc⟩:=h;have g1:=(bN h1).1;have g2:=(bN h2).1;rw[hc,List.append_nil]at g2;have ea:aY (decide (a.1=1)) 1=a.1:=by rcases(by omega:a.1=0\/a.1=1)with e | e<;>rw[e]<;>rfl
    refine⟨?_,k2.symm⟩;rw[qx rfl,g1,g2];rw[ea];simp
 rw[if_neg k2]at h;by_cases k3:k=3
 ·rw[if_pos k3]at h;unfold jm at h;cases h1:bC l with
  | none=>rw[h1]at h;cases h
  | some t=>
   rw[h1,Option.bind_some]at h;cases h2:dm (decide (0<f / 2%4)) 0 (aX 2) t.2 with
   | none=>rw[h2]at h;cases h
   | some i=>
    rw[h2,Option.bind_some]at h;simp only[Option.some.injEq,Prod.mk.injEq,and_true]at h;subst h;refine⟨?_,k3.symm⟩;have g1:=(cg h1).1;rw[tI rfl,g1];unfold dm at h2;by_cases hq:0<f / 2%4
    ·rw[decide_eq_true hq,if_pos rfl]at h2;rw[if_pos (show(0:Int)<((f / 2%4:Nat):Int) by omega),(bN h2).1];simp
    rw[decide_eq_false hq]at h2;simp only[Bool.false_eq_true,if_false,Option.some.injEq]at h2;rw[if_neg (show¬(0:Int)<((f / 2%4:Nat):Int) by omega),<-h2];simp
 rw[if_neg k3]at h;by_cases k8:k=8
 ·rw[if_pos k8]at h;unfold l5 at h;cases h1:aX 2 l with
  | none=>rw[h1]at h;cases h
  | some i=>
   rw[h1,Option.bind_some]at h;cases h2:cx dB i.2.length i.2 with
   | none=>rw[h2]at h;cases h
   |some w=>rw[h2,Option.bind_some]at h;simp only[Option.some.injEq,Prod.mk.injEq,and_true]at h;subst h;refine⟨?_,k8.symm⟩;have g2:=lr dB cF (fun l x r h=>u1 h) _ _ _ h2;rw[qy rfl,(bN h1).1,g2];simp
 rw[if_neg k8]at h;by_cases k9:k=9
 ·rw[if_pos k9]at h;unfold l6 at h;cases h1:aX 2 l with
  | none=>rw[h1]at h;cases h
  | some i=>
   rw[h1,Option.bind_some]at h;cases h2:cx cm i.2.length i.2 with
   | none=>rw[h2]at h;cases h
   |some w=>rw[h2,Option.bind_some]at h;simp only[Option.some.injEq,Prod.mk.injEq,and_true]at h;subst h;refine⟨?_,k9.symm⟩;have g2:=lr cm (fun c=>ay 1 c.toNat) (fun l x r h=>l8 h) _ _ _ h2;rw[qA rfl,(bN h1).1,g2];simp
 rw[if_neg k9]at h;by_cases gI:k=10
 ·rw[if_pos gI]at h;unfold l7 at h;cases h1:aX 2 l with
  | none=>rw[h1]at h;cases h
  | some i=>
   rw[h1,Option.bind_some]at h;cases h2:cx bC i.2.length i.2 with
   | none=>rw[h2]at h;cases h
   |some w=>rw[h2,Option.bind_some]at h;simp only[Option.some.injEq,Prod.mk.injEq,and_true]at h;subst h;refine⟨?_,gI.symm⟩;have g2:=lr bC aI (fun l x r h=>(cg h).1) _ _ _ h2;rw[na rfl,(bN h1).1,g2];simp
 rw[if_neg gI]at h;by_cases k4:4<=k/\k<=11
 ·rw[if_pos k4]at h;unfold m7 at h;cases h1:aX 2 l with
  | none=>rw[h1]at h;cases h
  |some i=>rw[h1,Option.bind_some]at h;simp only[Option.some.injEq,Prod.mk.injEq]at h;obtain⟨rfl,hi⟩:=h;have g1:=(bN h1).1;rw[hi,List.append_nil]at g1;refine⟨?_,rfl⟩;rw[kA (p:={aN k with id:=(i.1:Int)}) k4 k8 k9 gI,g1];simp
 rw[if_neg k4]at h;simp only[Option.some.injEq,Prod.mk.injEq]at h;obtain⟨rfl,hl⟩:=h;refine⟨?_,rfl⟩;rw[kB (p:=aN k) k1 k2 k3 k8 k9 gI k4,hl]
theorem Hi{k:Int}{f:Nat}{l:List UInt8}{p:Pk}:(cj k f l=some (p,[])/\cE p=f/\aZ p)↔(aZ p/\p.kind=k/\cE p=f/\bj p=l):=by
 constructor
 ·rintro⟨h1,h2,h3⟩;obtain⟨a,b⟩:=u7 h1;exact⟨h3,b,h2,a.symm⟩
 rintro⟨h1,rfl,rfl,rfl⟩;exact⟨mb h1,rfl,h1⟩
section
section
variable {α:Type} {tk:List UInt8->Option (α×List UInt8)}
theorem u9(n:Nat):cx tk n []=some []:=by cases n<;>simp[cx]
theorem nT{n:Nat}{l:List UInt8}(h:l≠[]):cx tk (n+1) l=(tk l).bind fun x=>(cx tk n x.2).bind fun r=>some (x.1::r):=by rw[cx,if_neg h]
theorem rK(hs:∀l x r,tk l=some (x,r)->r.length<l.length):∀(k n:Nat)(l:List UInt8),l.length<=k->l.length<=n->cx tk n l=cx tk l.length l
 | k,n,[],_,_=>by rw[u9,u9]
 | 0,n,x::l,h,_=>by simp at h
 | k+1,0,x::l,_,h=>by simp at h
 | k+1,n+1,x::l,hk,hn=>by
  rw[nT (by simp),List.length_cons,nT (by simp)];cases h:tk (x::l)with
  | none=>rfl
  |some y=>have h1:=hs _ y.1 y.2 h;simp only[List.length_cons]at h1 hk hn;rw[Option.bind_some,Option.bind_some,rK hs k n y.2 (by omega) (by omega),rK hs k l.length y.2 (by omega) (by omega)]
variable (tk) in
structure Hj (l:List UInt8)(xs:List α)(r:List UInt8):Prop where
 out:cx tk l.length l=(cx tk r.length r).bind fun ys=>some (xs++ys)
 le:xs.length+r.length<=l.length
theorem Hj.start(l:List UInt8):Hj tk l [] l:=⟨by cases cx tk l.length l<;>simp,by simp⟩
theorem Hj.fails{l:List UInt8}{xs:List α}{r:List UInt8}(h:Hj tk l xs r)(hr:r≠[])(h0:tk r=none):cx tk l.length l=none:=by obtain⟨x,r,rfl⟩:=List.exists_cons_of_ne_nil hr;rw[h.out,List.length_cons,nT hr,h0];rfl
theorem Hj.step(hs:∀l x r,tk l=some (x,r)->r.length<l.length){l:List UInt8}{xs:List α}{r:List UInt8}(h:Hj tk l xs r)(hr:r≠[]){y:α×List UInt8}(h0:tk r=some y):Hj tk l (xs++[y.1]) y.2:=by
 obtain⟨x,r,rfl⟩:=List.exists_cons_of_ne_nil hr;have h1:=hs _ y.1 y.2 h0;simp only[List.length_cons]at h1;refine⟨?_,?_⟩
 ·rw[h.out,List.length_cons,nT hr,h0,Option.bind_some,rK hs r.length r.length y.2 (by omega) (by omega)];cases cx tk y.2.length y.2<;>simp
 have:=h.le;simp only[List.length_cons,List.length_append,List.length_nil]at this ⊢;omega
theorem Hj.ends{l:List UInt8}{xs:List α}(h:Hj tk l xs []):cx tk l.length l=some xs:=by rw[h.out,u9];simp
end
theorem xF{l:List UInt8}{x r:List UInt8}(h:bC l=some (x,r)):r.length<l.length:=by have h1:=(cg h).1;rw[h1,List.length_append,show(aI x).length=2+x.length by unfold aI;rw[List.length_append,aO]];omega
theorem xG{k:Nat}(hk:1<=k){l:List UInt8}{n:Nat}{r:List UInt8}(h:aX k l=some (n,r)):r.length<l.length:=by have h1:=(bN h).1;rw[h1,List.length_append,aO];omega
theorem DB{l:List UInt8}{n:Int}{r:List UInt8}(h:cm l=some (n,r)):r.length<l.length:=by
 unfold cm at h;cases h1:aX 1 l with
 | none=>rw[h1]at h;cases h
 | some x=>rw[h1]at h;cases h;exact xG (by decide) (n:=x.1) h1
theorem DC{l:List UInt8}{n:bM}{r:List UInt8}(h:dB l=some (n,r)):r.length<l.length:=by
 unfold dB at h;cases h1:bC l with
 | none=>rw[h1]at h;cases h
 | some x=>
  rw[h1,Option.bind_some]at h;cases h2:aX 1 x.2 with
  | none=>rw[h2]at h;cases h
  |some y=>rw[h2,Option.bind_some]at h;cases h;have a:=xF (x:=x.1) (r:=x.2) h1;have b:=xG (by decide) (n:=y.1) (r:=y.2) h2;omega
end
section
structure bT where
 raw:Pk->List UInt8
 parse:List UInt8->Option Pk
 iff:∀b p,parse b=some p↔aZ p/\raw p=b
 len:∀p,aZ p->(raw p).length<65536
def mf(t:Tn):Prop:=
 if t.kind=2 then(0<=t.conn/\t.conn<=65535)/\aZ t.pk else if t.kind=3 then(0<=t.conn/\t.conn<=65535)/\t.bytes.length<=10000
 else if t.kind=7 then(0<=t.arm/\t.arm<=2)/\ -1<=t.n/\t.n<65535 else if t.kind=8 then t.bf.length<=255/\∀z∈t.bf,0<=z/\z<=255
 else(t.kind=1\/t.kind=4\/t.kind=5\/t.kind=6)/\0<=t.conn/\t.conn<=65535
def ig(k:Int):Tn:=⟨k,0,aN 0,[],0,0,[]⟩
def cZ(t:Tn):Tn:=
 if t.kind=2 then{ig 2 with conn:=t.conn,pk:=t.pk}else if t.kind=3 then{ig 3 with conn:=t.conn,bytes:=t.bytes}
 else if t.kind=7 then{ig 7 with arm:=t.arm,n:=t.n}else if t.kind=8 then{ig 8 with bf:=t.bf}
 else if t.kind=1\/t.kind=4 then{ig t.kind with conn:=t.conn}else ig t.kind
def eh(t:Tn):Prop:=mf t/\cZ t=t
section
variable (C:bT)
def dC(t:Tn):List UInt8:=
 if t.kind=2 then aI (C.raw t.pk)else if t.kind=3 then aI t.bytes else if t.kind=7 then ay 1 t.arm.toNat++ay 2 (t.n+1).toNat
 else if t.kind=8 then ay 1 t.bf.length++t.bf.flatMap (fun z=>ay 1 z.toNat)else[]
def iB(t:Tn):List UInt8:=ay 1 t.kind.toNat++(ay 2 t.conn.toNat++dC C t)
def bJ{α:Type}(take:List UInt8->Option (α×List UInt8)):Nat->List UInt8->Option (List α×List UInt8)
 | 0,l=>some ([],l)
 | n+1,l=>(take l).bind fun x=>(bJ take n x.2).bind fun r=>some (x.1::r.1,r.2)
def fB(u:Bool)(t:Tn)(l:List UInt8):Option (Tn×List UInt8):=
 if t.kind=2 then(bC l).bind fun s=>(C.parse s.1).bind fun p=>some ({t with pk:=p},s.2)
 else if t.kind=3 then(bC l).bind fun s=>some ({t with bytes:=s.1},s.2)
 else if t.kind=7 then(aX 1 l).bind fun a=>(aX 2 a.2).bind fun n=>some ({t with arm:=(a.1:Int),n:=(n.1:Int)-1},n.2)
 else if t.kind=8 then(aX 1 l).bind fun m=>(bJ cm m.1 m.2).bind fun x=>some ({t with bf:=x.1},x.2)
 else if (t.kind=1\/t.kind=4\/t.kind=5\/t.kind=6)\/u=true then some (t,l)else none
def cw(u:Bool)(l:List UInt8):Option (Tn×List UInt8):=(aX 1 l).bind fun k=>(aX 2 k.2).bind fun c=>fB C u {ig (k.1:Int)with conn:=(c.1:Int)} c.2
variable {C} in
theorem mg{u:Bool}{t:Tn}(h:t.kind=2)(l:List UInt8):fB C u t l=(bC l).bind fun s=>(C.parse s.1).bind fun p=>some ({t with pk:=p},s.2):=by unfold fB;rw[if_pos h]
variable {C} in
theorem qC{u:Bool}{t:Tn}(h:t.kind=3)(l:List UInt8):fB C u t l=(bC l).bind fun s=>some ({t with bytes:=s.1},s.2):=by unfold fB;rw[if_neg (by omega),if_pos h]
variable {C} in
theorem nV{u:Bool}{t:Tn}(h:t.kind=7)(l:List UInt8):fB C u t l=(aX 1 l).bind fun a=>(aX 2 a.2).bind fun n=>some ({t with arm:=(a.1:Int),n:=(n.1:Int)-1},n.2):=by unfold fB;rw[if_neg (by omega),if_neg (by omega),if_pos h]
variable {C} in
theorem nW{u:Bool}{t:Tn}(h:t.kind=8)(l:List UInt8):fB C u t l=(aX 1 l).bind fun m=>(bJ cm m.1 m.2).bind fun x=>some ({t with bf:=x.1},x.2):=by unfold fB;rw[if_neg (by omega),if_neg (by omega),if_neg (by omega),if_pos h]
variable {C} in
theorem Fo{u:Bool}{t:Tn}(h:t.kind=1\/t.kind=4\/t.kind=5\/t.kind=6)(l:List UInt8):fB C u t l=some (t,l):=by unfold fB;rw[if_neg (by omega),if_neg (by omega),if_neg (by omega),if_neg (by omega),if_pos (.inl h)]
variable {C} in
theorem Fp{t:Tn}(h:t.kind=2):dC C t=aI (C.raw t.pk):=by unfold dC;rw[if_pos h]
variable {C} in
theorem Fq{t:Tn}(h:t.kind=3):dC C t=aI t.bytes:=by unfold dC;rw[if_neg (by omega),if_pos h]
variable {C} in
theorem Fs{t:Tn}(h:t.kind=7):dC C t=ay 1 t.arm.toNat++ay 2 (t.n+1).toNat:=by unfold dC;rw[if_neg (by omega),if_neg (by omega),if_pos h]
variable {C} in
theorem Fu{t:Tn}(h:t.kind=8):dC C t=ay 1 t.bf.length++t.bf.flatMap (fun z=>ay 1 z.toNat):=by unfold dC;rw[if_neg (by omega),if_neg (by omega),if_neg (by omega),if_pos h]
variable {C} in
theorem Fv{t:Tn}(h:t.kind≠2/\t.kind≠3/\t.kind≠7/\t.kind≠8):dC C t=[]:=by unfold dC;rw[if_neg (by omega),if_neg (by omega),if_neg (by omega),if_neg (by omega)]
theorem mh{α:Type}(take:List UInt8->Option (α×List UInt8))(enc:α->List UInt8)(may:α->Prop)(h:∀x r,may x->take (enc x++r)=some (x,r)):∀(xs:List α)(r:List UInt8),(∀x∈xs,may x)->bJ take xs.length (xs.flatMap enc++r)=some (xs,r)
 | [],r,_=>rfl
 |x::xs,r,hm=>by rw[List.flatMap_cons,List.append_assoc,List.length_cons,bJ,h x _ (hm x (List.mem_cons_self ..)),Option.bind_some];dsimp only;rw[mh take enc may h xs r (fun y hy=>hm y (List.mem_cons_of_mem _ hy)),Option.bind_some]
theorem jQ{α:Type}(take:List UInt8->Option (α×List UInt8))(enc:α->List UInt8)(h:∀l x r,take l=some (x,r)->l=enc x++r):∀(n:Nat)(l:List UInt8)(xs:List α)(r:List UInt8),bJ take n l=some (xs,r)->l=xs.flatMap enc++r/\xs.length=n
 | 0,l,xs,r,e=>by cases e;exact⟨rfl,rfl⟩
 | n+1,l,xs,r,e=>by
  unfold bJ at e;cases h1:take l with
  | none=>rw[h1]at e;cases e
  | some x=>
   rw[h1,Option.bind_some]at e;cases h2:bJ take n x.2 with
   | none=>rw[h2]at e;cases e
   |some y=>rw[h2,Option.bind_some]at e;cases e;obtain⟨a,b⟩:=jQ take enc h n x.2 y.1 y.2 h2;rw[h l x.1 x.2 h1,a,List.flatMap_cons,List.append_assoc];exact⟨rfl,by rw[List.length_cons,b]⟩
theorem DD{z:Int}(h:0<=z/\z<=255)(r:List UInt8):cm (ay 1 z.toNat++r)=some (z,r):=by unfold cm;rw[cD 1 _ (by omega),Option.bind_some];dsimp only;rw[Int.toNat_of_nonneg (by omega)]
theorem iT{t:Tn}(h:eh t):1<=t.kind/\t.kind<=8:=by
 have hm:=h.1;unfold mf at hm
 repeat' split at hm
 all_goals omega
theorem nd{t:Tn}(h:eh t):0<=t.conn/\t.conn<=65535:=by
 obtain⟨hm,ha⟩:=h;unfold mf at hm;unfold cZ at ha;by_cases k2:t.kind=2
 ·rw[if_pos k2]at hm;exact hm.1
 rw[if_neg k2]at hm ha;by_cases k3:t.kind=3
 ·rw[if_pos k3]at hm;exact hm.1
 rw[if_neg k3]at hm ha;by_cases k7:t.kind=7
 ·rw[if_pos k7]at ha;rw[<-ha];show(0:Int)<=0/\(0:Int)<=65535;decide
 rw[if_neg k7]at hm ha;by_cases k8:t.kind=8
 ·rw[if_pos k8]at ha;rw[<-ha];show(0:Int)<=0/\(0:Int)<=65535;decide
 rw[if_neg k8]at hm ha;exact hm.2
theorem Ou{u:Bool}{t:Tn}(h:eh t)(r:List UInt8):cw C u (iB C t++r)=some (t,r):=by
 have hk:=iT h;have hc:=nd h;obtain⟨hm,ha⟩:=h;unfold cw iB;rw[List.append_assoc,List.append_assoc,cD 1 _ (by omega),Option.bind_some];dsimp only;rw[cD 2 _ (by omega),Option.bind_some];dsimp only;rw[Int.toNat_of_nonneg (by omega),Int.toNat_of_nonneg hc.1];unfold mf at hm;unfold cZ at ha;by_cases k2:t.kind=2
 ·rw[if_pos k2]at hm ha;rw[mg (show({ig t.kind with conn:=t.conn}:Tn).kind=2 from k2),Fp k2,dJ _ (C.len _ hm.2),Option.bind_some];dsimp only;rw[(C.iff _ _).2 ⟨hm.2,rfl⟩,Option.bind_some,k2];exact congrArg (fun t=>some (t,r)) ha
 rw[if_neg k2]at hm ha;by_cases k3:t.kind=3
 ·rw[if_pos k3]at hm ha;rw[qC (show({ig t.kind with conn:=t.conn}:Tn).kind=3 from k3),Fq k3,dJ _ (by omega),Option.bind_some,k3];exact congrArg (fun t=>some (t,r)) ha
 rw[if_neg k3]at hm ha;by_cases k7:t.kind=7
 ·rw[if_pos k7]at hm ha;have dR:t.conn=0:=by rw[<-ha];rfl
  rw[nV (show({ig t.kind with conn:=t.conn}:Tn).kind=7 from k7),Fs k7,List.append_assoc,cD 1 _ (by omega),Option.bind_some];dsimp only;rw[cD 2 _ (by omega),Option.bind_some];dsimp only;rw[Int.toNat_of_nonneg (by omega),Int.toNat_of_nonneg (by omega),show t.n+1-1=t.n by omega,k7,dR];exact congrArg (fun t=>some (t,r)) ha
 rw[if_neg k7]at hm ha;by_cases k8:t.kind=8
 ·rw[if_pos k8]at hm ha;have dR:t.conn=0:=by rw[<-ha];rfl
  rw[nW (show({ig t.kind with conn:=t.conn}:Tn).kind=8 from k8),Fu k8,List.append_assoc,cD 1 _ (by omega),Option.bind_some];dsimp only;rw[mh cm (fun z=>ay 1 z.toNat) (fun z=>0<=z/\z<=255) (fun z r hz=>DD hz r) _ _ hm.2,Option.bind_some];dsimp only;rw[k8,dR];exact congrArg (fun t=>some (t,r)) ha
 rw[if_neg k8]at hm ha;rw[Fo (show({ig t.kind with conn:=t.conn}:Tn).kind=1\/_ from hm.1),Fv ⟨k2,k3,k7,k8⟩,List.nil_append];by_cases k1:t.kind=1\/t.kind=4
 ·rw[if_pos k1]at ha;exact congrArg (fun t=>some (t,r)) ha
 rw[if_neg k1]at ha;have dR:t.conn=0:=by rw[<-ha];rfl
 rw[dR];exact congrArg (fun t=>some (t,r)) ha
theorem pC{u:Bool}{l r:List UInt8}{t:Tn}(h:cw C u l=some (t,r)):l=iB C t++r:=by
 unfold cw at h;cases h1:aX 1 l with
 | none=>rw[h1]at h;cases h
 | some k=>
 rw[h1,Option.bind_some]at h;cases h2:aX 2 k.2 with
 | none=>rw[h2]at h;cases h
 | some c=>
 rw[h2,Option.bind_some]at h;have g1:=(bN h1).1;have g2:=(bN h2).1;rw[g1,g2];generalize c.2=m at h ⊢;have oH:∀(c:Int),({ig (k.1:Int)with conn:=c}:Tn).kind=(k.1:Int):=fun _=>rfl;unfold iB;by_cases k2:(k.1:Int)=2
 ·rw[mg ((oH _).trans k2)]at h;cases h3:bC m with
  | none=>rw[h3]at h;cases h
  | some s=>
  rw[h3,Option.bind_some]at h;cases h4:C.parse s.1 with
  | none=>rw[h4]at h;cases h
  | some p=>
  rw[h4,Option.bind_some]at h;simp only[Option.some.injEq,Prod.mk.injEq]at h;obtain⟨hT,rfl⟩:=h;have e0:t.kind=(k.1:Int):=by rw[<-hT];rfl
  have e1:t.conn=(c.1:Int):=by rw[<-hT]
  have e2:t.pk=p:=by rw[<-hT]
  rw[Fp (e0.trans k2),e0,e1,e2,((C.iff _ _).1 h4).2,(cg h3).1];simp[List.append_assoc]
 by_cases k3:(k.1:Int)=3
 ·rw[qC ((oH _).trans k3)]at h;cases h3:bC m with
  | none=>rw[h3]at h;cases h
  | some s=>
  rw[h3,Option.bind_some]at h;simp only[Option.some.injEq,Prod.mk.injEq]at h;obtain⟨hT,rfl⟩:=h;have e0:t.kind=(k.1:Int):=by rw[<-hT];rfl
  have e1:t.conn=(c.1:Int):=by rw[<-hT]
  have e2:t.bytes=s.1:=by rw[<-hT]
  rw[Fq (e0.trans k3),e0,e1,e2,(cg h3).1];simp[List.append_assoc]
 by_cases k7:(k.1:Int)=7
 ·rw[nV ((oH _).trans k7)]at h;cases h3:aX 1 m with
  | none=>rw[h3]at h;cases h
  | some a=>
  rw[h3,Option.bind_some]at h;cases h4:aX 2 a.2 with
  | none=>rw[h4]at h;cases h
  | some n=>
  rw[h4,Option.bind_some]at h;simp only[Option.some.injEq,Prod.mk.injEq]at h;obtain⟨hT,rfl⟩:=h;have e0:t.kind=(k.1:Int):=by rw[<-hT];rfl
  have e1:t.conn=(c.1:Int):=by rw[<-hT]
  have e2:t.arm=(a.1:Int)/\t.n=(n.1:Int)-1:=by rw[<-hT];exact⟨rfl,rfl⟩
  rw[Fs (e0.trans k7),e0,e1,e2.1,e2.2,(bN h3).1,(bN h4).1,show((n.1:Int)-1+1).toNat=n.1 by omega];simp[List.append_assoc]
 by_cases k8:(k.1:Int)=8
 ·rw[nW ((oH _).trans k8)]at h;cases h3:aX 1 m with
  | none=>rw[h3]at h;cases h
  | some a=>
  rw[h3,Option.bind_some]at h;cases h4:bJ cm a.1 a.2 with
  | none=>rw[h4]at h;cases h
  | some x=>
  rw[h4,Option.bind_some]at h;simp only[Option.some.injEq,Prod.mk.injEq]at h;obtain⟨hT,rfl⟩:=h;have e0:t.kind=(k.1:Int):=by rw[<-hT];rfl
  have e1:t.conn=(c.1:Int):=by rw[<-hT]
  obtain⟨g4,g5⟩:=jQ cm (fun z=>ay 1 z.toNat) (fun l x r h=>l8 h) _ _ _ _ h4;have e2:t.bf=x.1:=by rw[<-hT]
  rw[Fu (e0.trans k8),e0,e1,e2,(bN h3).1,g5,g4];simp[List.append_assoc]
 unfold fB at h;rw[if_neg (show¬({ig (k.1:Int)with conn:=_}:Tn).kind=2 from k2),if_neg (show¬({ig (k.1:Int)with conn:=_}:Tn).kind=3 from k3),if_neg (show¬({ig (k.1:Int)with conn:=_}:Tn).kind=7 from k7),if_neg (show¬({ig (k.1:Int)with conn:=_}:Tn).kind=8 from k8)]at h;split at h
 ·simp only[Option.some.injEq,Prod.mk.injEq]at h;obtain⟨hT,rfl⟩:=h;have e0:t.kind=(k.1:Int):=by rw[<-hT];rfl
  have e1:t.conn=(c.1:Int):=by rw[<-hT]
  rw[Fv (by rw[e0];exact⟨k2,k3,k7,k8⟩),e0,e1];simp
 cases h
theorem Al(t:Tn):iB C t≠[]:=fun h=>Aj _ (List.append_eq_nil_iff.1 h).1
end
end
end Go.Proofs.YtkghejaimhoboaaGreatDoor
