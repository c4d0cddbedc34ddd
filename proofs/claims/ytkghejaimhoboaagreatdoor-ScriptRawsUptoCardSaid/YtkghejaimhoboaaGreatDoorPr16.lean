/- Parts of the proof of ScriptRaws. -/
import Derived.Test.YtkghejaimhoboaaGreatDoorPr11
set_option linter.unusedSimpArgs false
set_option linter.unusedVariables false
set_option maxRecDepth 100000
set_option maxHeartbeats 8000000
namespace Go.Proofs.YtkghejaimhoboaaGreatDoor
open Go.RowKit Go.Shelf Go.Proofs.Tryz
def saidN(s:List UInt8)(most:Nat):Bool:=decide (s.length<=most)&&decide (wrongU s= -1)
def within(n lo hi:Int):Bool:=decide (lo<=n)&&decide (n<=hi)
def eqWill2(v:WillV):Bool:=decide (v.topic=[])&&(decide (v.body=[])&&(decide (v.qos=0)&& !v.retain))
def mayC(p:Pk):Bool:=
 saidN p.client 23&&(p.clean|| !p.client.isEmpty)&&within p.keep 0 65535
  &&((!p.hasWill&&eqWill2 p.will)||(p.hasWill&&nameR p.will.topic&&decide (p.will.body.length<=2000)&&within p.will.qos 0 2))
  &&((p.hasUser&&saidN p.user 200)||(!p.hasUser&&p.user.isEmpty&& !p.hasPass))
  &&((p.hasPass&&decide (p.pass.length<=200))||(!p.hasPass&&p.pass.isEmpty))
def mayA(p:Pk):Bool:=within p.code 0 5&&(decide (p.code=0)|| !p.present)
def mayPub(p:Pk):Bool:=nameR p.topic&&decide (p.body.length<=2000)&&within p.qos 0 2&&((decide (p.qos=0)&&decide (p.id=0)&& !p.dup)||(decide (0<p.qos)&&within p.id 1 65535))
def fitL{α:Type}(l:List α)(is:α->Bool):Bool:=decide (1<=l.length)&&decide (l.length<=8)&&l.all is
def mayWant(x:WantV):Bool:=filterR x.filter&&within x.qos 0 2
def mayCode(c:Int):Bool:=within c 0 2||decide (c=128)
def mayP(p:Pk):Bool:=
 if p.kind=1 then mayC p else if p.kind=2 then mayA p else if p.kind=3 then mayPub p
 else if p.kind=8 then within p.id 1 65535&&fitL p.wants mayWant else if p.kind=9 then within p.id 1 65535&&fitL p.codes mayCode else if p.kind=10 then within p.id 1 65535&&fitL p.filters filterR
 else if 4<=p.kind/\p.kind<=11 then within p.id 1 65535 else decide (12<=p.kind/\p.kind<=14)
def zPk(k:Int):Pk:=⟨k,false,false,0,[],[],0,[],false,0,false,noWill,false,false,[],[],false,0,[],[],[]⟩
def aloneP(p:Pk):Pk:=
 if p.kind=1 then{zPk 1 with client:=p.client,clean:=p.clean,keep:=p.keep,hasWill:=p.hasWill,will:=p.will,hasUser:=p.hasUser,hasPass:=p.hasPass,user:=p.user,pass:=p.pass}
 else if p.kind=2 then{zPk 2 with present:=p.present,code:=p.code}
 else if p.kind=3 then{zPk 3 with topic:=p.topic,body:=p.body,qos:=p.qos,retain:=p.retain,dup:=p.dup,id:=p.id}
 else if p.kind=8 then{zPk 8 with id:=p.id,wants:=p.wants}else if p.kind=9 then{zPk 9 with id:=p.id,codes:=p.codes}else if p.kind=10 then{zPk 10 with id:=p.id,filters:=p.filters}
 else if 4<=p.kind/\p.kind<=11 then{zPk p.kind with id:=p.id}else zPk p.kind
def rightP(p:Pk):Prop:=mayP p=true/\aloneP p=p
def bitN(b:Bool)(n:Nat):Nat:=if b then n else 0
def connN(p:Pk):Nat:=bitN p.hasUser 128+bitN p.hasPass 64+bitN p.will.retain 32+bitN p.hasWill 4+bitN p.clean 2+8*p.will.qos.toNat
def flagN(p:Pk):Nat:=if p.kind=3 then bitN p.dup 8+bitN p.retain 1+2*p.qos.toNat else if p.kind=6\/p.kind=8\/p.kind=10 then 2 else 0
def wantB(x:WantV):List UInt8:=txtB x.filter++numB 1 x.qos.toNat
def mqtt:List UInt8:=[77,81,84,84]
def bodyP(p:Pk):List UInt8:=
 if p.kind=1 then txtB mqtt++(numB 1 4++(numB 1 (connN p)++(numB 2 p.keep.toNat++(txtB p.client++((if p.hasWill then txtB p.will.topic++txtB p.will.body else[])++((if p.hasUser then txtB p.user else[])++(if p.hasPass then txtB p.pass else[])))))))
 else if p.kind=2 then numB 1 (bitN p.present 1)++numB 1 p.code.toNat
 else if p.kind=3 then txtB p.topic++((if 0<p.qos then numB 2 p.id.toNat else[])++p.body)
 else if p.kind=8 then numB 2 p.id.toNat++p.wants.flatMap wantB else if p.kind=9 then numB 2 p.id.toNat++p.codes.flatMap (fun c=>numB 1 c.toNat)else if p.kind=10 then numB 2 p.id.toNat++p.filters.flatMap txtB
 else if 4<=p.kind/\p.kind<=11 then numB 2 p.id.toNat else[]
def rOpt{α:Type}(is:Bool)(z:α)(r:List UInt8->Option (α×List UInt8))(l:List UInt8):Option (α×List UInt8):=if is then r l else some (z,l)
def rTwo(l:List UInt8):Option ((List UInt8×List UInt8)×List UInt8):=(rTxt l).bind fun a=>(rTxt a.2).bind fun b=>some ((a.1,b.1),b.2)
def has(f n:Nat):Bool:=decide (f / n%2=1)
def readC(l:List UInt8):Option (Pk×List UInt8):=
 (rTxt l).bind fun a=>if a.1≠mqtt then none else(rNum 1 a.2).bind fun v=>if v.1≠4 then none else(rNum 1 v.2).bind fun f=>(rNum 2 f.2).bind fun k=>(rTxt k.2).bind fun c=>
  (rOpt (has f.1 4) ([],[]) rTwo c.2).bind fun wl=>(rOpt (has f.1 128) [] rTxt wl.2).bind fun u=>(rOpt (has f.1 64) [] rTxt u.2).bind fun s=>
   let p:Pk:={zPk 1 with hasUser:=has f.1 128,hasPass:=has f.1 64,hasWill:=has f.1 4,clean:=has f.1 2,keep:=(k.1:Int),client:=c.1,will:=⟨wl.1.1,wl.1.2,((f.1 / 8%4:Nat):Int),has f.1 32⟩,user:=u.1,pass:=s.1}
   if f.1=connN p then some (p,s.2)else none
theorem has_bits(u s r w c:Bool)(q:Nat)(hq:q<4):has (bitN u 128+bitN s 64+bitN r 32+bitN w 4+bitN c 2+8*q) 128=u/\has (bitN u 128+bitN s 64+bitN r 32+bitN w 4+bitN c 2+8*q) 64=s/\has (bitN u 128+bitN s 64+bitN r 32+bitN w 4+bitN c 2+8*q) 32=r
  /\has (bitN u 128+bitN s 64+bitN r 32+bitN w 4+bitN c 2+8*q) 4=w/\has (bitN u 128+bitN s 64+bitN r 32+bitN w 4+bitN c 2+8*q) 2=c/\(bitN u 128+bitN s 64+bitN r 32+bitN w 4+bitN c 2+8*q) / 8%4=q/\bitN u 128+bitN s 64+bitN r 32+bitN w 4+bitN c 2+8*q<256:=by
 have h:q=0\/q=1\/q=2\/q=3:=by omega
 rcases h with rfl | rfl | rfl | rfl<;>cases u<;>cases s<;>cases r<;>cases w<;>cases c<;>decide
theorem rTwo_txt{a b:List UInt8}(ha:a.length<65536)(hb:b.length<65536)(r:List UInt8):rTwo (txtB a++(txtB b++r))=some ((a,b),r):=by unfold rTwo;rw[rTxt_txtB a ha,Option.bind_some,rTxt_txtB b hb,Option.bind_some]
theorem rTwo_some{l r:List UInt8}{a b:List UInt8}(h:rTwo l=some ((a,b),r)):l=txtB a++(txtB b++r):=by
 unfold rTwo at h;cases h1:rTxt l with
 | none=>rw[h1]at h;cases h
 | some x=>
  rw[h1,Option.bind_some]at h;cases h2:rTxt x.2 with
  | none=>rw[h2]at h;cases h
  |some y=>rw[h2,Option.bind_some]at h;cases h;rw[(rTxt_some h1).1,(rTxt_some h2).1]
theorem nameR_len{s:List UInt8}(h:nameR s=true):s.length<=200:=by unfold nameR saidR at h;simp only[Bool.and_eq_true,decide_eq_true_eq]at h;exact h.1.1.2
theorem saidN_len{s:List UInt8}{m:Nat}(h:saidN s m=true):s.length<=m:=by unfold saidN at h;simp only[Bool.and_eq_true,decide_eq_true_eq]at h;exact h.1
theorem within_iff{n lo hi:Int}:within n lo hi=true↔lo<=n/\n<=hi:=by simp[within]
theorem mayC_parts{p:Pk}(h:mayC p=true):saidN p.client 23=true/\(0<=p.keep/\p.keep<=65535)
  /\((p.hasWill=false/\p.will=noWill)\/(p.hasWill=true/\nameR p.will.topic=true/\p.will.body.length<=2000/\0<=p.will.qos/\p.will.qos<=2))
  /\((p.hasUser=true/\saidN p.user 200=true)\/(p.hasUser=false/\p.user=[]))
  /\((p.hasPass=true/\p.pass.length<=200)\/(p.hasPass=false/\p.pass=[])):=by
 unfold mayC at h;simp only[Bool.and_eq_true,Bool.or_eq_true,Bool.not_eq_true',decide_eq_true_eq,within_iff,List.isEmpty_iff]at h;obtain⟨⟨⟨⟨⟨h1, -⟩,h2⟩,h3⟩,h4⟩,h5⟩:=h;refine⟨h1,h2,?_,?_,h5⟩
 ·rcases h3 with⟨a,b⟩ | ⟨⟨⟨a,b⟩,c⟩,d⟩
  ·refine .inl ⟨a,?_⟩;unfold eqWill2 at b;simp only[Bool.and_eq_true,decide_eq_true_eq,Bool.not_eq_true']at b;obtain⟨b1,b2,b3,b4⟩:=b;cases hw:p.will;rw[hw]at b1 b2 b3 b4;dsimp only at b1 b2 b3 b4;subst b1 b2 b3 b4;rfl
  exact .inr ⟨a,b,c,d⟩
 rcases h4 with⟨a,b⟩ | ⟨⟨a,b⟩, -⟩
 ·exact .inl ⟨a,b⟩
 exact .inr ⟨a,b⟩
theorem readC_body{p:Pk}(h:rightP p)(hk:p.kind=1)(r:List UInt8):readC (bodyP p++r)=some (p,r):=by
 obtain⟨hm,ha⟩:=h;have hm:mayC p=true:=by unfold mayP at hm;rwa [if_pos hk]at hm
 obtain⟨h1,h2,h3,h4,h5⟩:=mayC_parts hm;have hc:=saidN_len h1;have hq:p.will.qos.toNat<4:=by
  rcases h3 with⟨-,e⟩ | ⟨-, -, -,e1,e2⟩
  ·rw[e];decide
  omega
 have hq0:0<=p.will.qos:=by
  rcases h3 with⟨-,e⟩ | ⟨-, -, -,e1,e2⟩
  ·rw[e];decide
  omega
 obtain⟨b1,b2,b3,b4,b5,b6,b7⟩:=has_bits p.hasUser p.hasPass p.will.retain p.hasWill p.clean p.will.qos.toNat hq;have hN:connN p=bitN p.hasUser 128+bitN p.hasPass 64+bitN p.will.retain 32+bitN p.hasWill 4+bitN p.clean 2+8*p.will.qos.toNat:=rfl;rw[<-hN]at b1 b2 b3 b4 b5 b6 b7;have e1:∀r,rOpt (has (connN p) 4) ([],[]) rTwo ((if p.hasWill then txtB p.will.topic++txtB p.will.body else[])++r)=some ((p.will.topic,p.will.body),r):=by
  intro r;rw[b4];rcases h3 with⟨e,f⟩ | ⟨e,f,g, -⟩
  ·rw[e,f];rfl
  rw[e];have:=nameR_len f;simp only[rOpt,if_true,List.append_assoc];exact rTwo_txt (by omega) (by omega) r
 have e2:∀r,rOpt (has (connN p) 128) [] rTxt ((if p.hasUser then txtB p.user else[])++r)=some (p.user,r):=by
  intro r;rw[b1];rcases h4 with⟨e,f⟩ | ⟨e,f⟩
  ·rw[e];have:=saidN_len f;simp only[rOpt,if_true];exact rTxt_txtB _ (by omega) r
  rw[e,f];rfl
 have e3:∀r,rOpt (has (connN p) 64) [] rTxt ((if p.hasPass then txtB p.pass else[])++r)=some (p.pass,r):=by
  intro r;rw[b2];rcases h5 with⟨e,f⟩ | ⟨e,f⟩
  ·rw[e];simp only[rOpt,if_true];exact rTxt_txtB _ (by omega) r
  rw[e,f];rfl
 have hal:aloneP p={zPk 1 with client:=p.client,clean:=p.clean,keep:=p.keep,hasWill:=p.hasWill,will:=p.will,hasUser:=p.hasUser,hasPass:=p.hasPass,user:=p.user,pass:=p.pass}:=by unfold aloneP;rw[if_pos hk]
 unfold bodyP readC;rw[if_pos hk];simp only[List.append_assoc];rw[rTxt_txtB mqtt (by decide),Option.bind_some];dsimp only;rw[if_neg (by simp),rNum_numB 1 4 (by decide),Option.bind_some];dsimp only;rw[if_neg (by simp),rNum_numB 1 _ (by simpa using b7),Option.bind_some];dsimp only;rw[rNum_numB 2 _ (by have:=h2;omega),Option.bind_some];dsimp only;rw[rTxt_txtB _ (by omega),Option.bind_some];dsimp only;rw[e1,Option.bind_some];dsimp only;rw[e2,Option.bind_some];dsimp only;rw[e3,Option.bind_some];dsimp only;have hp:({zPk 1 with hasUser:=has (connN p) 128,hasPass:=has (connN p) 64,hasWill:=has (connN p) 4,clean:=has (connN p) 2,keep:=(p.keep.toNat:Int),client:=p.client,will:=⟨p.will.topic,p.will.body,((connN p / 8%4:Nat):Int),has (connN p) 32⟩,user:=p.user,pass:=p.pass}:Pk)=p:=by rw[b1,b2,b3,b4,b5,b6,Int.toNat_of_nonneg h2.1,Int.toNat_of_nonneg hq0];exact hal.symm.trans ha
 rw[hp,if_pos rfl]
theorem readC_some{l r:List UInt8}{p:Pk}(h:readC l=some (p,r)):l=bodyP p++r/\p.kind=1:=by
 unfold readC at h;cases h1:rTxt l with
 | none=>rw[h1]at h;cases h
 | some a=>
 rw[h1,Option.bind_some]at h;split at h
 ·cases h
 rename_i ha;simp only[ne_eq,Decidable.not_not]at ha;cases h2:rNum 1 a.2 with
 | none=>rw[h2]at h;cases h
 | some v=>
 rw[h2,Option.bind_some]at h;split at h
 ·cases h
 rename_i hv;simp only[ne_eq,Decidable.not_not]at hv;cases h3:rNum 1 v.2 with
 | none=>rw[h3]at h;cases h
 | some f=>
 rw[h3,Option.bind_some]at h;cases h4:rNum 2 f.2 with
 | none=>rw[h4]at h;cases h
 | some k=>
 rw[h4,Option.bind_some]at h;cases h5:rTxt k.2 with
 | none=>rw[h5]at h;cases h
 | some c=>
 rw[h5,Option.bind_some]at h;cases h6:rOpt (has f.1 4) ([],[]) rTwo c.2 with
 | none=>rw[h6]at h;cases h
 | some wl=>
 rw[h6,Option.bind_some]at h;cases h7:rOpt (has f.1 128) [] rTxt wl.2 with
 | none=>rw[h7]at h;cases h
 | some u=>
 rw[h7,Option.bind_some]at h;cases h8:rOpt (has f.1 64) [] rTxt u.2 with
 | none=>rw[h8]at h;cases h
 | some s=>
 rw[h8,Option.bind_some]at h;dsimp only at h;split at h
 ·rename_i hf;simp only[Option.some.injEq,Prod.mk.injEq]at h;obtain⟨hp,hs⟩:=h;refine⟨?_,by rw[<-hp];rfl⟩;rw[hp]at hf;have g1:=(rTxt_some h1).1;have g2:=(rNum_some h2).1;have g3:=(rNum_some h3).1;have g4:=(rNum_some h4).1;have g5:=(rTxt_some h5).1;have g6:c.2=(if has f.1 4 then txtB wl.1.1++txtB wl.1.2 else[])++wl.2:=by
   unfold rOpt at h6;cases hb:has f.1 4 with
   | false=>rw[hb]at h6;simp at h6;rw[<-h6];simp
   | true=>rw[hb]at h6;simp at h6;rw[rTwo_some (a:=wl.1.1) (b:=wl.1.2) (r:=wl.2) h6];simp[List.append_assoc]
  have g7:wl.2=(if has f.1 128 then txtB u.1 else[])++u.2:=by
   unfold rOpt at h7;cases hb:has f.1 128 with
   | false=>rw[hb]at h7;simp at h7;rw[<-h7];simp
   | true=>rw[hb]at h7;simp at h7;simpa using(rTxt_some (s:=u.1) (r:=u.2) h7).1
  have g8:u.2=(if has f.1 64 then txtB s.1 else[])++s.2:=by
   unfold rOpt at h8;cases hb:has f.1 64 with
   | false=>rw[hb]at h8;simp at h8;rw[<-h8];simp
   | true=>rw[hb]at h8;simp at h8;simpa using(rTxt_some (s:=s.1) (r:=s.2) h8).1
  have kk:p.kind=1:=by rw[<-hp];rfl
  have e1:p.hasWill=has f.1 4:=by rw[<-hp]
  have e2:p.hasUser=has f.1 128:=by rw[<-hp]
  have e3:p.hasPass=has f.1 64:=by rw[<-hp]
  have e4:p.will.topic=wl.1.1/\p.will.body=wl.1.2:=by rw[<-hp];exact⟨rfl,rfl⟩
  have e5:p.user=u.1/\p.pass=s.1/\p.client=c.1/\p.keep.toNat=k.1:=by rw[<-hp];exact⟨rfl,rfl,rfl,by simp⟩
  unfold bodyP;rw[if_pos kk,e1,e2,e3,e4.1,e4.2,e5.1,e5.2.1,e5.2.2.1,e5.2.2.2,<-hf,<-hs,g1,g2,g3,g4,g5,g6,g7,g8,ha,hv];simp only[List.append_assoc]
 cases h
def readA(l:List UInt8):Option (Pk×List UInt8):=
 (rNum 1 l).bind fun a=>if 1<a.1 then none else(rNum 1 a.2).bind fun c=>some ({zPk 2 with present:=decide (a.1=1),code:=(c.1:Int)},c.2)
def readPub(f:Nat)(l:List UInt8):Option (Pk×List UInt8):=
 (rTxt l).bind fun t=>(rOpt (decide (0<f / 2%4)) 0 (rNum 2) t.2).bind fun i=>some ({zPk 3 with dup:=has f 8,retain:=has f 1,qos:=((f / 2%4:Nat):Int),topic:=t.1,id:=(i.1:Int),body:=i.2},[])
def rAll{α:Type}(take:List UInt8->Option (α×List UInt8)):Nat->List UInt8->Option (List α)
 | 0,l=>if l=[]then some []else none
 | n+1,l=>if l=[]then some []else(take l).bind fun x=>(rAll take n x.2).bind fun r=>some (x.1::r)
def rWant(l:List UInt8):Option (WantV×List UInt8):=(rTxt l).bind fun t=>(rNum 1 t.2).bind fun q=>some (⟨t.1,(q.1:Int)⟩,q.2)
def rCode(l:List UInt8):Option (Int×List UInt8):=(rNum 1 l).bind fun c=>some ((c.1:Int),c.2)
def readL8(l:List UInt8):Option (Pk×List UInt8):=(rNum 2 l).bind fun i=>(rAll rWant i.2.length i.2).bind fun w=>some ({zPk 8 with id:=(i.1:Int),wants:=w},[])
def readL9(l:List UInt8):Option (Pk×List UInt8):=(rNum 2 l).bind fun i=>(rAll rCode i.2.length i.2).bind fun w=>some ({zPk 9 with id:=(i.1:Int),codes:=w},[])
def readL10(l:List UInt8):Option (Pk×List UInt8):=(rNum 2 l).bind fun i=>(rAll rTxt i.2.length i.2).bind fun w=>some ({zPk 10 with id:=(i.1:Int),filters:=w},[])
def readI(k:Int)(l:List UInt8):Option (Pk×List UInt8):=(rNum 2 l).bind fun i=>some ({zPk k with id:=(i.1:Int)},i.2)
def readP(k:Int)(f:Nat)(l:List UInt8):Option (Pk×List UInt8):=
 if k=1 then readC l else if k=2 then readA l else if k=3 then readPub f l else if k=8 then readL8 l else if k=9 then readL9 l else if k=10 then readL10 l
 else if 4<=k/\k<=11 then readI k l else some (zPk k,l)
theorem rAll_flat{α:Type}(take:List UInt8->Option (α×List UInt8))(enc:α->List UInt8)(may:α->Prop)(h:∀x r,may x->take (enc x++r)=some (x,r))(hne:∀x,enc x≠[]):∀(xs:List α)(n:Nat),(∀x∈xs,may x)->(xs.flatMap enc).length<=n->rAll take n (xs.flatMap enc)=some xs
 | [],n,_,_=>by cases n<;>simp[rAll]
 |x::xs,n,hm,hn=>by have h0:=List.length_pos_iff.2 (hne x);rw[List.flatMap_cons,List.length_append]at hn;obtain⟨m,rfl⟩:∃m,n=m+1:=⟨n-1,by omega⟩;rw[List.flatMap_cons,rAll,if_neg (by simp[hne x]),h x _ (hm x (List.mem_cons_self ..)),Option.bind_some];dsimp only;rw[rAll_flat take enc may h hne xs m (fun y hy=>hm y (List.mem_cons_of_mem _ hy)) (by omega),Option.bind_some]
theorem rAll_some{α:Type}(take:List UInt8->Option (α×List UInt8))(enc:α->List UInt8)(h:∀l x r,take l=some (x,r)->l=enc x++r):∀(n:Nat)(l:List UInt8)(xs:List α),rAll take n l=some xs->l=xs.flatMap enc
 |0,l,xs,e=>by
  unfold rAll at e;split at e
  ·cases e;assumption
  cases e
 | n+1,l,xs,e=>by
  unfold rAll at e;split at e
  ·cases e;assumption
  cases h1:take l with
  | none=>rw[h1]at e;cases e
  | some x=>
   rw[h1,Option.bind_some]at e;cases h2:rAll take n x.2 with
   | none=>rw[h2]at e;cases e
   |some r=>rw[h2,Option.bind_some]at e;cases e;rw[List.flatMap_cons,<-rAll_some take enc h n x.2 r h2,<-h l x.1 x.2 h1]
theorem txtB_ne(s:List UInt8):txtB s≠[]:=by intro h;have:=congrArg List.length h;rw[txtB,List.length_append,numB_len]at this;simp at this
theorem numB1_ne(n:Nat):numB 1 n≠[]:=by intro h;have:=congrArg List.length h;rw[numB_len]at this;simp at this
theorem rWant_B{x:WantV}(h:mayWant x=true)(r:List UInt8):rWant (wantB x++r)=some (x,r):=by
 unfold mayWant at h;simp only[Bool.and_eq_true,within_iff]at h;have hl:x.filter.length<=200:=by have:=h.1;unfold filterR saidR at this;simp only[Bool.and_eq_true,decide_eq_true_eq]at this;exact this.2.1.2
 unfold rWant wantB;rw[List.append_assoc,rTxt_txtB _ (by omega),Option.bind_some];dsimp only;rw[rNum_numB 1 _ (by have:=h.2;omega),Option.bind_some];dsimp only;rw[Int.toNat_of_nonneg h.2.1]
theorem rWant_some{l r:List UInt8}{x:WantV}(h:rWant l=some (x,r)):l=wantB x++r:=by
 unfold rWant at h;cases h1:rTxt l with
 | none=>rw[h1]at h;cases h
 | some t=>
  rw[h1,Option.bind_some]at h;cases h2:rNum 1 t.2 with
  | none=>rw[h2]at h;cases h
  |some q=>rw[h2,Option.bind_some]at h;cases h;unfold wantB;rw[(rTxt_some h1).1,(rNum_some h2).1,List.append_assoc];simp
theorem rCode_B{c:Int}(h:mayCode c=true)(r:List UInt8):rCode (numB 1 c.toNat++r)=some (c,r):=by unfold mayCode at h;simp only[Bool.or_eq_true,within_iff,decide_eq_true_eq]at h;unfold rCode;rw[rNum_numB 1 _ (by omega),Option.bind_some];dsimp only;rw[Int.toNat_of_nonneg (by omega)]
theorem rCode_some{l r:List UInt8}{c:Int}(h:rCode l=some (c,r)):l=numB 1 c.toNat++r:=by
 unfold rCode at h;cases h1:rNum 1 l with
 | none=>rw[h1]at h;cases h
 |some t=>rw[h1,Option.bind_some]at h;cases h;rw[(rNum_some h1).1];simp
theorem fitL_all{α:Type}{l:List α}{is:α->Bool}(h:fitL l is=true):∀x∈l,is x=true:=by unfold fitL at h;simp only[Bool.and_eq_true]at h;exact List.all_eq_true.1 h.2
theorem pub_bits(d r:Bool)(q:Nat)(hq:q<4):has (bitN d 8+bitN r 1+2*q) 8=d/\has (bitN d 8+bitN r 1+2*q) 1=r/\(bitN d 8+bitN r 1+2*q) / 2%4=q/\bitN d 8+bitN r 1+2*q<16:=by
 have h:q=0\/q=1\/q=2\/q=3:=by omega
 rcases h with rfl | rfl | rfl | rfl<;>cases d<;>cases r<;>decide
theorem rightP_kind{p:Pk}(h:rightP p):1<=p.kind/\p.kind<=14:=by
 have hm:=h.1;unfold mayP at hm
 repeat' split at hm
 all_goals first | omega | (simp at hm;omega)
theorem readP_body{p:Pk}(h:rightP p):readP p.kind (flagN p) (bodyP p)=some (p,[]):=by
 have hk:=rightP_kind h;by_cases k1:p.kind=1
 ·have:=readC_body h k1 [];rw[List.append_nil]at this;unfold readP;rw[if_pos k1,this]
 obtain⟨hm,ha⟩:=h;unfold mayP at hm;unfold aloneP at ha;unfold readP bodyP flagN;rw[if_neg k1]at hm ha ⊢;rw[if_neg k1];by_cases k2:p.kind=2
 ·rw[if_pos k2]at hm ha ⊢;rw[if_pos k2];unfold mayA at hm;simp only[Bool.and_eq_true,within_iff]at hm;have hb:bitN p.present 1<256^1/\¬1<bitN p.present 1/\decide (bitN p.present 1=1)=p.present:=by cases p.present<;>decide
  unfold readA;rw[rNum_numB 1 _ hb.1,Option.bind_some];dsimp only;rw[if_neg hb.2.1,show numB 1 p.code.toNat=numB 1 p.code.toNat++[] by simp,rNum_numB 1 _ (by have:=hm.1;omega),Option.bind_some];dsimp only;rw[hb.2.2,Int.toNat_of_nonneg hm.1.1,ha]
 rw[if_neg k2]at hm ha ⊢;rw[if_neg k2];by_cases k3:p.kind=3
 ·rw[if_pos k3]at hm ha ⊢;rw[if_pos k3,if_pos k3];unfold mayPub at hm;simp only[Bool.and_eq_true,Bool.or_eq_true,decide_eq_true_eq,within_iff,Bool.not_eq_true']at hm;obtain⟨⟨⟨m1,m2⟩,m3⟩,m4⟩:=hm;have hl:=nameR_len m1;obtain⟨b1,b2,b3, -⟩:=pub_bits p.dup p.retain p.qos.toNat (by omega);unfold readPub;rw[rTxt_txtB _ (by omega),Option.bind_some];dsimp only;rw[b1,b2,b3];have e1:rOpt (decide (0<p.qos.toNat)) 0 (rNum 2) ((if 0<p.qos then numB 2 p.id.toNat else[])++p.body)=some (p.id.toNat,p.body):=by
   unfold rOpt;by_cases hq:0<p.qos
   ·rw[if_pos hq,decide_eq_true (by omega),if_pos rfl,rNum_numB 2 _ (by omega)]
   rw[if_neg hq,decide_eq_false (by omega)];rcases m4 with⟨⟨-,e⟩, -⟩ | ⟨e, -⟩
   ·rw[e];rfl
   omega
  rw[e1,Option.bind_some];dsimp only;rw[Int.toNat_of_nonneg m3.1,Int.toNat_of_nonneg (by omega),ha]
 rw[if_neg k3]at hm ha ⊢;rw[if_neg k3];have hid:within p.id 1 65535=true->(∀r,rNum 2 (numB 2 p.id.toNat++r)=some (p.id.toNat,r))/\(p.id.toNat:Int)=p.id:=fun h=>by rw[within_iff]at h;exact⟨fun r=>rNum_numB 2 _ (by omega) r,Int.toNat_of_nonneg (by omega)⟩
 by_cases k8:p.kind=8
 ·rw[if_pos k8]at hm ha ⊢;rw[if_pos k8];simp only[Bool.and_eq_true]at hm;obtain⟨i1,i2⟩:=hid hm.1;unfold readL8;rw[i1,Option.bind_some];dsimp only;rw[rAll_flat rWant wantB (fun x=>mayWant x=true) (fun x r hx=>rWant_B hx r) (fun x h=>txtB_ne x.filter (List.append_eq_nil_iff.1 h).1) _ _ (fitL_all hm.2) nat_le_rfl,Option.bind_some,i2,ha]
 rw[if_neg k8]at hm ha ⊢;rw[if_neg k8];by_cases k9:p.kind=9
 ·rw[if_pos k9]at hm ha ⊢;rw[if_pos k9];simp only[Bool.and_eq_true]at hm;obtain⟨i1,i2⟩:=hid hm.1;unfold readL9;rw[i1,Option.bind_some];dsimp only;rw[rAll_flat rCode (fun c=>numB 1 c.toNat) (fun x=>mayCode x=true) (fun x r hx=>rCode_B hx r) (fun x h=>numB1_ne _ h) _ _ (fitL_all hm.2) nat_le_rfl,Option.bind_some,i2,ha]
 rw[if_neg k9]at hm ha ⊢;rw[if_neg k9];by_cases k10:p.kind=10
 ·rw[if_pos k10]at hm ha ⊢;rw[if_pos k10];simp only[Bool.and_eq_true]at hm;obtain⟨i1,i2⟩:=hid hm.1;unfold readL10;rw[i1,Option.bind_some];dsimp only;rw[rAll_flat rTxt txtB (fun x=>filterR x=true) (fun x r hx=>rTxt_txtB x (by unfold filterR saidR at hx;simp only[Bool.and_eq_true,decide_eq_true_eq]at hx;have:=hx.2.1.2;omega) r) (fun x h=>txtB_ne _ h) _ _ (fitL_all hm.2) nat_le_rfl,Option.bind_some,i2,ha]
 rw[if_neg k10]at hm ha ⊢;rw[if_neg k10];by_cases k4:4<=p.kind/\p.kind<=11
 ·rw[if_pos k4]at hm ha ⊢;rw[if_pos k4];obtain⟨i1,i2⟩:=hid hm;unfold readI;have:=i1 [];rw[List.append_nil]at this;rw[this,Option.bind_some];dsimp only;rw[i2,ha]
 rw[if_neg k4]at hm ha ⊢;rw[if_neg k4,ha]
theorem bodyP_2{p:Pk}(h:p.kind=2):bodyP p=numB 1 (bitN p.present 1)++numB 1 p.code.toNat:=by unfold bodyP;rw[if_neg (by omega),if_pos h]
theorem bodyP_3{p:Pk}(h:p.kind=3):bodyP p=txtB p.topic++((if 0<p.qos then numB 2 p.id.toNat else[])++p.body):=by unfold bodyP;rw[if_neg (by omega),if_neg (by omega),if_pos h]
theorem bodyP_8{p:Pk}(h:p.kind=8):bodyP p=numB 2 p.id.toNat++p.wants.flatMap wantB:=by unfold bodyP;rw[if_neg (by omega),if_neg (by omega),if_neg (by omega),if_pos h]
theorem bodyP_9{p:Pk}(h:p.kind=9):bodyP p=numB 2 p.id.toNat++p.codes.flatMap (fun c=>numB 1 c.toNat):=by unfold bodyP;rw[if_neg (by omega),if_neg (by omega),if_neg (by omega),if_neg (by omega),if_pos h]
theorem bodyP_10{p:Pk}(h:p.kind=10):bodyP p=numB 2 p.id.toNat++p.filters.flatMap txtB:=by unfold bodyP;rw[if_neg (by omega),if_neg (by omega),if_neg (by omega),if_neg (by omega),if_neg (by omega),if_pos h]
theorem bodyP_i{p:Pk}(h:4<=p.kind/\p.kind<=11)(h8:p.kind≠8)(h9:p.kind≠9)(h10:p.kind≠10):bodyP p=numB 2 p.id.toNat:=by unfold bodyP;rw[if_neg (by omega),if_neg (by omega),if_neg (by omega),if_neg h8,if_neg h9,if_neg h10,if_pos h]
theorem bodyP_0{p:Pk}(h1:p.kind≠1)(h2:p.kind≠2)(h3:p.kind≠3)(h8:p.kind≠8)(h9:p.kind≠9)(h10:p.kind≠10)(h:¬(4<=p.kind/\p.kind<=11)):bodyP p=[]:=by unfold bodyP;rw[if_neg h1,if_neg h2,if_neg h3,if_neg h8,if_neg h9,if_neg h10,if_neg h]
theorem readP_some{k:Int}{f:Nat}{l:List UInt8}{p:Pk}(h:readP k f l=some (p,[])):l=bodyP p/\p.kind=k:=by
 unfold readP at h;by_cases k1:k=1
 ·rw[if_pos k1]at h;obtain⟨a,b⟩:=readC_some h;rw[List.append_nil]at a;exact⟨a,b.trans k1.symm⟩
 rw[if_neg k1]at h;by_cases k2:k=2
 ·rw[if_pos k2]at h;unfold readA at h;cases h1:rNum 1 l with
  | none=>rw[h1]at h;cases h
  | some a=>
   rw[h1,Option.bind_some]at h;split at h
   ·cases h
   rename_i ha;cases h2:rNum 1 a.2 with
   | none=>rw[h2]at h;cases h
   | some c=>
    rw[h2,Option.bind_some]at h;simp only[Option.some.injEq,Prod.mk.injEq]at h;obtain⟨rfl,hc⟩:=h;have g1:=(rNum_some h1).1;have g2:=(rNum_some h2).1;rw[hc,List.append_nil]at g2;have ea:bitN (decide (a.1=1)) 1=a.1:=by rcases(by omega:a.1=0\/a.1=1)with e | e<;>rw[e]<;>rfl
    refine⟨?_,k2.symm⟩;rw[bodyP_2 rfl,g1,g2];rw[ea];simp
 rw[if_neg k2]at h;by_cases k3:k=3
 ·rw[if_pos k3]at h;unfold readPub at h;cases h1:rTxt l with
  | none=>rw[h1]at h;cases h
  | some t=>
   rw[h1,Option.bind_some]at h;cases h2:rOpt (decide (0<f / 2%4)) 0 (rNum 2) t.2 with
   | none=>rw[h2]at h;cases h
   | some i=>
    rw[h2,Option.bind_some]at h;simp only[Option.some.injEq,Prod.mk.injEq,and_true]at h;subst h;refine⟨?_,k3.symm⟩;have g1:=(rTxt_some h1).1;rw[bodyP_3 rfl,g1];unfold rOpt at h2;by_cases hq:0<f / 2%4
    ·rw[decide_eq_true hq,if_pos rfl]at h2;rw[if_pos (show(0:Int)<((f / 2%4:Nat):Int) by omega),(rNum_some h2).1];simp
    rw[decide_eq_false hq]at h2;simp only[Bool.false_eq_true,if_false,Option.some.injEq]at h2;rw[if_neg (show¬(0:Int)<((f / 2%4:Nat):Int) by omega),<-h2];simp
 rw[if_neg k3]at h;by_cases k8:k=8
 ·rw[if_pos k8]at h;unfold readL8 at h;cases h1:rNum 2 l with
  | none=>rw[h1]at h;cases h
  | some i=>
   rw[h1,Option.bind_some]at h;cases h2:rAll rWant i.2.length i.2 with
   | none=>rw[h2]at h;cases h
   |some w=>rw[h2,Option.bind_some]at h;simp only[Option.some.injEq,Prod.mk.injEq,and_true]at h;subst h;refine⟨?_,k8.symm⟩;have g2:=rAll_some rWant wantB (fun l x r h=>rWant_some h) _ _ _ h2;rw[bodyP_8 rfl,(rNum_some h1).1,g2];simp
 rw[if_neg k8]at h;by_cases k9:k=9
 ·rw[if_pos k9]at h;unfold readL9 at h;cases h1:rNum 2 l with
  | none=>rw[h1]at h;cases h
  | some i=>
   rw[h1,Option.bind_some]at h;cases h2:rAll rCode i.2.length i.2 with
   | none=>rw[h2]at h;cases h
   |some w=>rw[h2,Option.bind_some]at h;simp only[Option.some.injEq,Prod.mk.injEq,and_true]at h;subst h;refine⟨?_,k9.symm⟩;have g2:=rAll_some rCode (fun c=>numB 1 c.toNat) (fun l x r h=>rCode_some h) _ _ _ h2;rw[bodyP_9 rfl,(rNum_some h1).1,g2];simp
 rw[if_neg k9]at h;by_cases k10:k=10
 ·rw[if_pos k10]at h;unfold readL10 at h;cases h1:rNum 2 l with
  | none=>rw[h1]at h;cases h
  | some i=>
   rw[h1,Option.bind_some]at h;cases h2:rAll rTxt i.2.length i.2 with
   | none=>rw[h2]at h;cases h
   |some w=>rw[h2,Option.bind_some]at h;simp only[Option.some.injEq,Prod.mk.injEq,and_true]at h;subst h;refine⟨?_,k10.symm⟩;have g2:=rAll_some rTxt txtB (fun l x r h=>(rTxt_some h).1) _ _ _ h2;rw[bodyP_10 rfl,(rNum_some h1).1,g2];simp
 rw[if_neg k10]at h;by_cases k4:4<=k/\k<=11
 ·rw[if_pos k4]at h;unfold readI at h;cases h1:rNum 2 l with
  | none=>rw[h1]at h;cases h
  |some i=>rw[h1,Option.bind_some]at h;simp only[Option.some.injEq,Prod.mk.injEq]at h;obtain⟨rfl,hi⟩:=h;have g1:=(rNum_some h1).1;rw[hi,List.append_nil]at g1;refine⟨?_,rfl⟩;rw[bodyP_i (p:={zPk k with id:=(i.1:Int)}) k4 k8 k9 k10,g1];simp
 rw[if_neg k4]at h;simp only[Option.some.injEq,Prod.mk.injEq]at h;obtain⟨rfl,hl⟩:=h;refine⟨?_,rfl⟩;rw[bodyP_0 (p:=zPk k) k1 k2 k3 k8 k9 k10 k4,hl]
theorem reads_iff{k:Int}{f:Nat}{l:List UInt8}{p:Pk}:(readP k f l=some (p,[])/\flagN p=f/\rightP p)↔(rightP p/\p.kind=k/\flagN p=f/\bodyP p=l):=by
 constructor
 ·rintro⟨h1,h2,h3⟩;obtain⟨a,b⟩:=readP_some h1;exact⟨h3,b,h2,a.symm⟩
 rintro⟨h1,rfl,rfl,rfl⟩;exact⟨readP_body h1,rfl,h1⟩
section
section
variable {α:Type} {tk:List UInt8->Option (α×List UInt8)}
theorem rAll_nil(n:Nat):rAll tk n []=some []:=by cases n<;>simp[rAll]
theorem rAll_cons{n:Nat}{l:List UInt8}(h:l≠[]):rAll tk (n+1) l=(tk l).bind fun x=>(rAll tk n x.2).bind fun r=>some (x.1::r):=by rw[rAll,if_neg h]
theorem rAll_fuel(hs:∀l x r,tk l=some (x,r)->r.length<l.length):∀(k n:Nat)(l:List UInt8),l.length<=k->l.length<=n->rAll tk n l=rAll tk l.length l
 | k,n,[],_,_=>by rw[rAll_nil,rAll_nil]
 | 0,n,x::l,h,_=>by simp at h
 | k+1,0,x::l,_,h=>by simp at h
 | k+1,n+1,x::l,hk,hn=>by
  rw[rAll_cons (by simp),List.length_cons,rAll_cons (by simp)];cases h:tk (x::l)with
  | none=>rfl
  |some y=>have h1:=hs _ y.1 y.2 h;simp only[List.length_cons]at h1 hk hn;rw[Option.bind_some,Option.bind_some,rAll_fuel hs k n y.2 (by omega) (by omega),rAll_fuel hs k l.length y.2 (by omega) (by omega)]
variable (tk) in
structure AlS (l:List UInt8)(xs:List α)(r:List UInt8):Prop where
 out:rAll tk l.length l=(rAll tk r.length r).bind fun ys=>some (xs++ys)
 le:xs.length+r.length<=l.length
theorem AlS.start(l:List UInt8):AlS tk l [] l:=⟨by cases rAll tk l.length l<;>simp,by simp⟩
theorem AlS.fails{l:List UInt8}{xs:List α}{r:List UInt8}(h:AlS tk l xs r)(hr:r≠[])(h0:tk r=none):rAll tk l.length l=none:=by obtain⟨x,r,rfl⟩:=List.exists_cons_of_ne_nil hr;rw[h.out,List.length_cons,rAll_cons hr,h0];rfl
theorem AlS.step(hs:∀l x r,tk l=some (x,r)->r.length<l.length){l:List UInt8}{xs:List α}{r:List UInt8}(h:AlS tk l xs r)(hr:r≠[]){y:α×List UInt8}(h0:tk r=some y):AlS tk l (xs++[y.1]) y.2:=by
 obtain⟨x,r,rfl⟩:=List.exists_cons_of_ne_nil hr;have h1:=hs _ y.1 y.2 h0;simp only[List.length_cons]at h1;refine⟨?_,?_⟩
 ·rw[h.out,List.length_cons,rAll_cons hr,h0,Option.bind_some,rAll_fuel hs r.length r.length y.2 (by omega) (by omega)];cases rAll tk y.2.length y.2<;>simp
 have:=h.le;simp only[List.length_cons,List.length_append,List.length_nil]at this ⊢;omega
theorem AlS.ends{l:List UInt8}{xs:List α}(h:AlS tk l xs []):rAll tk l.length l=some xs:=by rw[h.out,rAll_nil];simp
end
theorem rTxt_less{l:List UInt8}{x r:List UInt8}(h:rTxt l=some (x,r)):r.length<l.length:=by have h1:=(rTxt_some h).1;rw[h1,List.length_append,show(txtB x).length=2+x.length by unfold txtB;rw[List.length_append,numB_len]];omega
theorem rNum_less{k:Nat}(hk:1<=k){l:List UInt8}{n:Nat}{r:List UInt8}(h:rNum k l=some (n,r)):r.length<l.length:=by have h1:=(rNum_some h).1;rw[h1,List.length_append,numB_len];omega
theorem rCode_less{l:List UInt8}{n:Int}{r:List UInt8}(h:rCode l=some (n,r)):r.length<l.length:=by
 unfold rCode at h;cases h1:rNum 1 l with
 | none=>rw[h1]at h;cases h
 | some x=>rw[h1]at h;cases h;exact rNum_less (by decide) (n:=x.1) h1
theorem rWant_less{l:List UInt8}{n:WantV}{r:List UInt8}(h:rWant l=some (n,r)):r.length<l.length:=by
 unfold rWant at h;cases h1:rTxt l with
 | none=>rw[h1]at h;cases h
 | some x=>
  rw[h1,Option.bind_some]at h;cases h2:rNum 1 x.2 with
  | none=>rw[h2]at h;cases h
  |some y=>rw[h2,Option.bind_some]at h;cases h;have a:=rTxt_less (x:=x.1) (r:=x.2) h1;have b:=rNum_less (by decide) (n:=y.1) (r:=y.2) h2;omega
end
end Go.Proofs.YtkghejaimhoboaaGreatDoor
