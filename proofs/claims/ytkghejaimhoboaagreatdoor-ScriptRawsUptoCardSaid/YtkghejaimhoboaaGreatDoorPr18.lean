/- Parts of the proof of ScriptRaws. -/
import Derived.Test.YtkghejaimhoboaaGreatDoorPr16
import Derived.Test.YtkghejaimhoboaaGreatDoorPr14
import Derived.Test.YtkghejaimhoboaaGreatDoorPr15
import Derived.Test.YtkghejaimhoboaaGreatDoorPr17
set_option linter.unusedSimpArgs false
set_option linter.unusedVariables false
set_option maxRecDepth 100000
set_option maxHeartbeats 8000000
namespace Go.Proofs.YtkghejaimhoboaaGreatDoor
open Go.RowKit Go.Shelf Go.Proofs.Tryz
section
structure PkCode where
 raw:Pk->List UInt8
 parse:List UInt8->Option Pk
 iff:∀b p,parse b=some p↔rightP p/\raw p=b
 len:∀p,rightP p->(raw p).length<65536
def mayT(t:Tn):Prop:=
 if t.kind=2 then(0<=t.conn/\t.conn<=65535)/\rightP t.pk else if t.kind=3 then(0<=t.conn/\t.conn<=65535)/\t.bytes.length<=10000
 else if t.kind=7 then(0<=t.arm/\t.arm<=2)/\ -1<=t.n/\t.n<65535 else if t.kind=8 then t.picks.length<=255/\∀z∈t.picks,0<=z/\z<=255
 else(t.kind=1\/t.kind=4\/t.kind=5\/t.kind=6)/\0<=t.conn/\t.conn<=65535
def zTn(k:Int):Tn:=⟨k,0,zPk 0,[],0,0,[]⟩
def aloneT(t:Tn):Tn:=
 if t.kind=2 then{zTn 2 with conn:=t.conn,pk:=t.pk}else if t.kind=3 then{zTn 3 with conn:=t.conn,bytes:=t.bytes}
 else if t.kind=7 then{zTn 7 with arm:=t.arm,n:=t.n}else if t.kind=8 then{zTn 8 with picks:=t.picks}
 else if t.kind=1\/t.kind=4 then{zTn t.kind with conn:=t.conn}else zTn t.kind
def rightT(t:Tn):Prop:=mayT t/\aloneT t=t
section
variable (C:PkCode)
def partB(t:Tn):List UInt8:=
 if t.kind=2 then txtB (C.raw t.pk)else if t.kind=3 then txtB t.bytes else if t.kind=7 then numB 1 t.arm.toNat++numB 2 (t.n+1).toNat
 else if t.kind=8 then numB 1 t.picks.length++t.picks.flatMap (fun z=>numB 1 z.toNat)else[]
def turnB(t:Tn):List UInt8:=numB 1 t.kind.toNat++(numB 2 t.conn.toNat++partB C t)
def rMany{α:Type}(take:List UInt8->Option (α×List UInt8)):Nat->List UInt8->Option (List α×List UInt8)
 | 0,l=>some ([],l)
 | n+1,l=>(take l).bind fun x=>(rMany take n x.2).bind fun r=>some (x.1::r.1,r.2)
def rPart(u:Bool)(t:Tn)(l:List UInt8):Option (Tn×List UInt8):=
 if t.kind=2 then(rTxt l).bind fun s=>(C.parse s.1).bind fun p=>some ({t with pk:=p},s.2)
 else if t.kind=3 then(rTxt l).bind fun s=>some ({t with bytes:=s.1},s.2)
 else if t.kind=7 then(rNum 1 l).bind fun a=>(rNum 2 a.2).bind fun n=>some ({t with arm:=(a.1:Int),n:=(n.1:Int)-1},n.2)
 else if t.kind=8 then(rNum 1 l).bind fun m=>(rMany rCode m.1 m.2).bind fun x=>some ({t with picks:=x.1},x.2)
 else if (t.kind=1\/t.kind=4\/t.kind=5\/t.kind=6)\/u=true then some (t,l)else none
def rTurn(u:Bool)(l:List UInt8):Option (Tn×List UInt8):=(rNum 1 l).bind fun k=>(rNum 2 k.2).bind fun c=>rPart C u {zTn (k.1:Int)with conn:=(c.1:Int)} c.2
variable {C} in
theorem rPart_2{u:Bool}{t:Tn}(h:t.kind=2)(l:List UInt8):rPart C u t l=(rTxt l).bind fun s=>(C.parse s.1).bind fun p=>some ({t with pk:=p},s.2):=by unfold rPart;rw[if_pos h]
variable {C} in
theorem rPart_3{u:Bool}{t:Tn}(h:t.kind=3)(l:List UInt8):rPart C u t l=(rTxt l).bind fun s=>some ({t with bytes:=s.1},s.2):=by unfold rPart;rw[if_neg (by omega),if_pos h]
variable {C} in
theorem rPart_7{u:Bool}{t:Tn}(h:t.kind=7)(l:List UInt8):rPart C u t l=(rNum 1 l).bind fun a=>(rNum 2 a.2).bind fun n=>some ({t with arm:=(a.1:Int),n:=(n.1:Int)-1},n.2):=by unfold rPart;rw[if_neg (by omega),if_neg (by omega),if_pos h]
variable {C} in
theorem rPart_8{u:Bool}{t:Tn}(h:t.kind=8)(l:List UInt8):rPart C u t l=(rNum 1 l).bind fun m=>(rMany rCode m.1 m.2).bind fun x=>some ({t with picks:=x.1},x.2):=by unfold rPart;rw[if_neg (by omega),if_neg (by omega),if_neg (by omega),if_pos h]
variable {C} in
theorem rPart_b{u:Bool}{t:Tn}(h:t.kind=1\/t.kind=4\/t.kind=5\/t.kind=6)(l:List UInt8):rPart C u t l=some (t,l):=by unfold rPart;rw[if_neg (by omega),if_neg (by omega),if_neg (by omega),if_neg (by omega),if_pos (.inl h)]
variable {C} in
theorem partB_2{t:Tn}(h:t.kind=2):partB C t=txtB (C.raw t.pk):=by unfold partB;rw[if_pos h]
variable {C} in
theorem partB_3{t:Tn}(h:t.kind=3):partB C t=txtB t.bytes:=by unfold partB;rw[if_neg (by omega),if_pos h]
variable {C} in
theorem partB_7{t:Tn}(h:t.kind=7):partB C t=numB 1 t.arm.toNat++numB 2 (t.n+1).toNat:=by unfold partB;rw[if_neg (by omega),if_neg (by omega),if_pos h]
variable {C} in
theorem partB_8{t:Tn}(h:t.kind=8):partB C t=numB 1 t.picks.length++t.picks.flatMap (fun z=>numB 1 z.toNat):=by unfold partB;rw[if_neg (by omega),if_neg (by omega),if_neg (by omega),if_pos h]
variable {C} in
theorem partB_b{t:Tn}(h:t.kind≠2/\t.kind≠3/\t.kind≠7/\t.kind≠8):partB C t=[]:=by unfold partB;rw[if_neg (by omega),if_neg (by omega),if_neg (by omega),if_neg (by omega)]
theorem rMany_flat{α:Type}(take:List UInt8->Option (α×List UInt8))(enc:α->List UInt8)(may:α->Prop)(h:∀x r,may x->take (enc x++r)=some (x,r)):∀(xs:List α)(r:List UInt8),(∀x∈xs,may x)->rMany take xs.length (xs.flatMap enc++r)=some (xs,r)
 | [],r,_=>rfl
 |x::xs,r,hm=>by rw[List.flatMap_cons,List.append_assoc,List.length_cons,rMany,h x _ (hm x (List.mem_cons_self ..)),Option.bind_some];dsimp only;rw[rMany_flat take enc may h xs r (fun y hy=>hm y (List.mem_cons_of_mem _ hy)),Option.bind_some]
theorem rMany_some{α:Type}(take:List UInt8->Option (α×List UInt8))(enc:α->List UInt8)(h:∀l x r,take l=some (x,r)->l=enc x++r):∀(n:Nat)(l:List UInt8)(xs:List α)(r:List UInt8),rMany take n l=some (xs,r)->l=xs.flatMap enc++r/\xs.length=n
 | 0,l,xs,r,e=>by cases e;exact⟨rfl,rfl⟩
 | n+1,l,xs,r,e=>by
  unfold rMany at e;cases h1:take l with
  | none=>rw[h1]at e;cases e
  | some x=>
   rw[h1,Option.bind_some]at e;cases h2:rMany take n x.2 with
   | none=>rw[h2]at e;cases e
   |some y=>rw[h2,Option.bind_some]at e;cases e;obtain⟨a,b⟩:=rMany_some take enc h n x.2 y.1 y.2 h2;rw[h l x.1 x.2 h1,a,List.flatMap_cons,List.append_assoc];exact⟨rfl,by rw[List.length_cons,b]⟩
theorem rCode_byte{z:Int}(h:0<=z/\z<=255)(r:List UInt8):rCode (numB 1 z.toNat++r)=some (z,r):=by unfold rCode;rw[rNum_numB 1 _ (by omega),Option.bind_some];dsimp only;rw[Int.toNat_of_nonneg (by omega)]
theorem rightT_kind{t:Tn}(h:rightT t):1<=t.kind/\t.kind<=8:=by
 have hm:=h.1;unfold mayT at hm
 repeat' split at hm
 all_goals omega
theorem rightT_conn{t:Tn}(h:rightT t):0<=t.conn/\t.conn<=65535:=by
 obtain⟨hm,ha⟩:=h;unfold mayT at hm;unfold aloneT at ha;by_cases k2:t.kind=2
 ·rw[if_pos k2]at hm;exact hm.1
 rw[if_neg k2]at hm ha;by_cases k3:t.kind=3
 ·rw[if_pos k3]at hm;exact hm.1
 rw[if_neg k3]at hm ha;by_cases k7:t.kind=7
 ·rw[if_pos k7]at ha;rw[<-ha];show(0:Int)<=0/\(0:Int)<=65535;decide
 rw[if_neg k7]at hm ha;by_cases k8:t.kind=8
 ·rw[if_pos k8]at ha;rw[<-ha];show(0:Int)<=0/\(0:Int)<=65535;decide
 rw[if_neg k8]at hm ha;exact hm.2
theorem rTurn_B{u:Bool}{t:Tn}(h:rightT t)(r:List UInt8):rTurn C u (turnB C t++r)=some (t,r):=by
 have hk:=rightT_kind h;have hc:=rightT_conn h;obtain⟨hm,ha⟩:=h;unfold rTurn turnB;rw[List.append_assoc,List.append_assoc,rNum_numB 1 _ (by omega),Option.bind_some];dsimp only;rw[rNum_numB 2 _ (by omega),Option.bind_some];dsimp only;rw[Int.toNat_of_nonneg (by omega),Int.toNat_of_nonneg hc.1];unfold mayT at hm;unfold aloneT at ha;by_cases k2:t.kind=2
 ·rw[if_pos k2]at hm ha;rw[rPart_2 (show({zTn t.kind with conn:=t.conn}:Tn).kind=2 from k2),partB_2 k2,rTxt_txtB _ (C.len _ hm.2),Option.bind_some];dsimp only;rw[(C.iff _ _).2 ⟨hm.2,rfl⟩,Option.bind_some,k2];exact congrArg (fun t=>some (t,r)) ha
 rw[if_neg k2]at hm ha;by_cases k3:t.kind=3
 ·rw[if_pos k3]at hm ha;rw[rPart_3 (show({zTn t.kind with conn:=t.conn}:Tn).kind=3 from k3),partB_3 k3,rTxt_txtB _ (by omega),Option.bind_some,k3];exact congrArg (fun t=>some (t,r)) ha
 rw[if_neg k3]at hm ha;by_cases k7:t.kind=7
 ·rw[if_pos k7]at hm ha;have hcz:t.conn=0:=by rw[<-ha];rfl
  rw[rPart_7 (show({zTn t.kind with conn:=t.conn}:Tn).kind=7 from k7),partB_7 k7,List.append_assoc,rNum_numB 1 _ (by omega),Option.bind_some];dsimp only;rw[rNum_numB 2 _ (by omega),Option.bind_some];dsimp only;rw[Int.toNat_of_nonneg (by omega),Int.toNat_of_nonneg (by omega),show t.n+1-1=t.n by omega,k7,hcz];exact congrArg (fun t=>some (t,r)) ha
 rw[if_neg k7]at hm ha;by_cases k8:t.kind=8
 ·rw[if_pos k8]at hm ha;have hcz:t.conn=0:=by rw[<-ha];rfl
  rw[rPart_8 (show({zTn t.kind with conn:=t.conn}:Tn).kind=8 from k8),partB_8 k8,List.append_assoc,rNum_numB 1 _ (by omega),Option.bind_some];dsimp only;rw[rMany_flat rCode (fun z=>numB 1 z.toNat) (fun z=>0<=z/\z<=255) (fun z r hz=>rCode_byte hz r) _ _ hm.2,Option.bind_some];dsimp only;rw[k8,hcz];exact congrArg (fun t=>some (t,r)) ha
 rw[if_neg k8]at hm ha;rw[rPart_b (show({zTn t.kind with conn:=t.conn}:Tn).kind=1\/_ from hm.1),partB_b ⟨k2,k3,k7,k8⟩,List.nil_append];by_cases k1:t.kind=1\/t.kind=4
 ·rw[if_pos k1]at ha;exact congrArg (fun t=>some (t,r)) ha
 rw[if_neg k1]at ha;have hcz:t.conn=0:=by rw[<-ha];rfl
 rw[hcz];exact congrArg (fun t=>some (t,r)) ha
theorem rTurn_some{u:Bool}{l r:List UInt8}{t:Tn}(h:rTurn C u l=some (t,r)):l=turnB C t++r:=by
 unfold rTurn at h;cases h1:rNum 1 l with
 | none=>rw[h1]at h;cases h
 | some k=>
 rw[h1,Option.bind_some]at h;cases h2:rNum 2 k.2 with
 | none=>rw[h2]at h;cases h
 | some c=>
 rw[h2,Option.bind_some]at h;have g1:=(rNum_some h1).1;have g2:=(rNum_some h2).1;rw[g1,g2];generalize c.2=m at h ⊢;have hkk:∀(c:Int),({zTn (k.1:Int)with conn:=c}:Tn).kind=(k.1:Int):=fun _=>rfl;unfold turnB;by_cases k2:(k.1:Int)=2
 ·rw[rPart_2 ((hkk _).trans k2)]at h;cases h3:rTxt m with
  | none=>rw[h3]at h;cases h
  | some s=>
  rw[h3,Option.bind_some]at h;cases h4:C.parse s.1 with
  | none=>rw[h4]at h;cases h
  | some p=>
  rw[h4,Option.bind_some]at h;simp only[Option.some.injEq,Prod.mk.injEq]at h;obtain⟨hT,rfl⟩:=h;have e0:t.kind=(k.1:Int):=by rw[<-hT];rfl
  have e1:t.conn=(c.1:Int):=by rw[<-hT]
  have e2:t.pk=p:=by rw[<-hT]
  rw[partB_2 (e0.trans k2),e0,e1,e2,((C.iff _ _).1 h4).2,(rTxt_some h3).1];simp[List.append_assoc]
 by_cases k3:(k.1:Int)=3
 ·rw[rPart_3 ((hkk _).trans k3)]at h;cases h3:rTxt m with
  | none=>rw[h3]at h;cases h
  | some s=>
  rw[h3,Option.bind_some]at h;simp only[Option.some.injEq,Prod.mk.injEq]at h;obtain⟨hT,rfl⟩:=h;have e0:t.kind=(k.1:Int):=by rw[<-hT];rfl
  have e1:t.conn=(c.1:Int):=by rw[<-hT]
  have e2:t.bytes=s.1:=by rw[<-hT]
  rw[partB_3 (e0.trans k3),e0,e1,e2,(rTxt_some h3).1];simp[List.append_assoc]
 by_cases k7:(k.1:Int)=7
 ·rw[rPart_7 ((hkk _).trans k7)]at h;cases h3:rNum 1 m with
  | none=>rw[h3]at h;cases h
  | some a=>
  rw[h3,Option.bind_some]at h;cases h4:rNum 2 a.2 with
  | none=>rw[h4]at h;cases h
  | some n=>
  rw[h4,Option.bind_some]at h;simp only[Option.some.injEq,Prod.mk.injEq]at h;obtain⟨hT,rfl⟩:=h;have e0:t.kind=(k.1:Int):=by rw[<-hT];rfl
  have e1:t.conn=(c.1:Int):=by rw[<-hT]
  have e2:t.arm=(a.1:Int)/\t.n=(n.1:Int)-1:=by rw[<-hT];exact⟨rfl,rfl⟩
  rw[partB_7 (e0.trans k7),e0,e1,e2.1,e2.2,(rNum_some h3).1,(rNum_some h4).1,show((n.1:Int)-1+1).toNat=n.1 by omega];simp[List.append_assoc]
 by_cases k8:(k.1:Int)=8
 ·rw[rPart_8 ((hkk _).trans k8)]at h;cases h3:rNum 1 m with
  | none=>rw[h3]at h;cases h
  | some a=>
  rw[h3,Option.bind_some]at h;cases h4:rMany rCode a.1 a.2 with
  | none=>rw[h4]at h;cases h
  | some x=>
  rw[h4,Option.bind_some]at h;simp only[Option.some.injEq,Prod.mk.injEq]at h;obtain⟨hT,rfl⟩:=h;have e0:t.kind=(k.1:Int):=by rw[<-hT];rfl
  have e1:t.conn=(c.1:Int):=by rw[<-hT]
  obtain⟨g4,g5⟩:=rMany_some rCode (fun z=>numB 1 z.toNat) (fun l x r h=>rCode_some h) _ _ _ _ h4;have e2:t.picks=x.1:=by rw[<-hT]
  rw[partB_8 (e0.trans k8),e0,e1,e2,(rNum_some h3).1,g5,g4];simp[List.append_assoc]
 unfold rPart at h;rw[if_neg (show¬({zTn (k.1:Int)with conn:=_}:Tn).kind=2 from k2),if_neg (show¬({zTn (k.1:Int)with conn:=_}:Tn).kind=3 from k3),if_neg (show¬({zTn (k.1:Int)with conn:=_}:Tn).kind=7 from k7),if_neg (show¬({zTn (k.1:Int)with conn:=_}:Tn).kind=8 from k8)]at h;split at h
 ·simp only[Option.some.injEq,Prod.mk.injEq]at h;obtain⟨hT,rfl⟩:=h;have e0:t.kind=(k.1:Int):=by rw[<-hT];rfl
  have e1:t.conn=(c.1:Int):=by rw[<-hT]
  rw[partB_b (by rw[e0];exact⟨k2,k3,k7,k8⟩),e0,e1];simp
 cases h
theorem turnB_ne(t:Tn):turnB C t≠[]:=fun h=>numB1_ne _ (List.append_eq_nil_iff.1 h).1
end
end
section
attribute [local go_sem] Oper.semAt_some
def fnV(f:FuncId)(cap:Array Value):Value:=.func (.func f) #[] cap
def bareV:Value:=.agg #[fnV 45 #[],fnV 46 #[],fnV 47 #[],fnV 48 #[]]
def emptyV:Value:=.agg #[fnV 45 #[],fnV 49 #[],fnV 47 #[],fnV 48 #[]]
def sayV(c:Nat):Value:=.agg #[fnV 50 #[.pointer (some ⟨c,0,none⟩)],fnV 52 #[],fnV 53 #[],fnV 56 #[]]
def bytesV(c:Nat):Value:=.agg #[fnV 58 #[.pointer (some ⟨c,0,none⟩)],fnV 59 #[],fnV 60 #[],fnV 61 #[]]
def armV:Value:=.agg #[fnV 62 #[],fnV 63 #[],fnV 64 #[],fnV 66 #[]]
def crashV:Value:=.agg #[fnV 67 #[],fnV 70 #[],fnV 71 #[],fnV 72 #[]]
def kindG(c:Nat)(k:Int):Option Value:=
 if k=8 then some crashV else if k=7 then some armV else if k=3 then some (bytesV c)else if k=2 then some (sayV c)
 else if k=6 then some emptyV else if k=5 then some emptyV else if k=4 then some bareV else if k=1 then some bareV else none
theorem blk_grown{w w':World}{b m:Nat}{cs:Array Value}{T:TypeId}(h:Blk w b cs T)(hg:w.grownBy w' (some m))(hn:b≠m):Blk w' b cs T:=
 h.keepW (M:=[m]) (Wrote.of_grown hg (fun j hj=>by cases hj;exact List.mem_singleton.2 rfl)) (by simpa using hn)
theorem sc_kinds(w:World):Calls prog 26 #[] w fun e w'=>∃m c,e=.returned (.map (some m))/\IM .i64 w' m (kindG c)/\Boxed w' c 66 (fnV 45 #[])/\Below w.heap.size w w':=by
 have hmf:∀(fn:Fn)(first cap:Array Value)(w:World),(Instr.makeFunc fn first cap).run prog w=.ok (.func fn first cap) w:=fun _ _ _ _=>rfl;have hmm:= @run_makeMap prog;obtain⟨W1,hW1⟩:=gen_of (w.alloc (.cells #[fnV 45 #[]] 66));obtain⟨W2,hW2⟩:=gen_of (W1.alloc (.cells #[fnV 45 #[],fnV 46 #[],fnV 47 #[],fnV 48 #[]] 71));obtain⟨W3,hW3⟩:=gen_of (W2.alloc (.cells #[fnV 45 #[],fnV 49 #[],fnV 47 #[],fnV 48 #[]] 71));have s1:W1.heap.size=w.heap.size+1:=by rw[<-hW1];simp
 have s2:W2.heap.size=w.heap.size+1+1:=by rw[<-hW2];simp[s1]
 have s3:W3.heap.size=w.heap.size+1+1+1:=by rw[<-hW3];simp[s2]
 have hc:Blk (W3.alloc (.map #[] 0)) w.heap.size #[fnV 45 #[]] 66:=by
  have h1:Blk W1 w.heap.size #[fnV 45 #[]] 66:=by rw[<-hW1];exact Blk.new _ _ _
  have h2:=h1.alloc (.cells #[fnV 45 #[],fnV 46 #[],fnV 47 #[],fnV 48 #[]] 71);rw[hW2]at h2;have h3:=h2.alloc (.cells #[fnV 45 #[],fnV 49 #[],fnV 47 #[],fnV 48 #[]] 71);rw[hW3]at h3;exact h3.alloc _
 have h2:Blk (W3.alloc (.map #[] 0)) (w.heap.size+1) #[fnV 45 #[],fnV 46 #[],fnV 47 #[],fnV 48 #[]] 71:=by
  have h2:Blk W2 (w.heap.size+1) #[fnV 45 #[],fnV 46 #[],fnV 47 #[],fnV 48 #[]] 71:=by rw[<-hW2,<-s1];exact Blk.new _ _ _
  have h3:=h2.alloc (.cells #[fnV 45 #[],fnV 49 #[],fnV 47 #[],fnV 48 #[]] 71);rw[hW3]at h3;exact h3.alloc _
 have h3:Blk (W3.alloc (.map #[] 0)) (w.heap.size+1+1) #[fnV 45 #[],fnV 49 #[],fnV 47 #[],fnV 48 #[]] 71:=by
  have h3:Blk W3 (w.heap.size+1+1) #[fnV 45 #[],fnV 49 #[],fnV 47 #[],fnV 48 #[]] 71:=by rw[<-hW3,<-s2];exact Blk.new _ _ _
  exact h3.alloc _
 have hI:IM .i64 (W3.alloc (.map #[] 0)) (w.heap.size+1+1+1) (fun _=>none):=by rw[<-s3];exact IM.new _
 have hbel:Below w.heap.size w (W3.alloc (.map #[] 0)):=by
  have b1:Below w.heap.size w W1:=by rw[<-hW1];exact bel_refl.alloc nat_le_rfl _
  have b2:Below w.heap.size w W2:=by rw[<-hW2];exact b1.alloc (by omega) _
  have b3:Below w.heap.size w W3:=by rw[<-hW3];exact b2.alloc (by omega) _
  exact b3.alloc (by omega) _
 clear s1 s2 s3;subst hW3 hW2 hW1;unfold fnV at*
 go_enter func26,ntmps26;go_wp2_with (first
  | (refine wpList_set_im rfl _ _ _ _ rfl _ _ underlying73 underlying44 hI rfl _ _ rfl rfl ?_;intro wN hI' hg;replace hI:=hI';replace hc:=blk_grown hc hg (by omega);replace h2:=blk_grown h2 hg (by omega);replace h3:=blk_grown h3 hg (by omega);replace hbel:=hbel.grown hg hbel.size (fun k hk=>by cases hk;omega);clear hg hI')
  | (refine wL 71 rfl rfl h2 underlying71 ?_)
  | (refine wL 71 rfl rfl h3 underlying71 ?_))
 go_ret;exact⟨_,rfl,w.heap.size,hI,hc,hbel⟩
end
section
def cfOK(c:CfV):Prop:=(1<=c.window/\c.window<=100)/\(1<=c.room/\c.room<=1000)/\(1<=c.inbox/\c.inbox<=1000)/\(1<=c.subs/\c.subs<=100)/\(1<=c.sessions/\c.sessions<=40)/\(0<=c.retained/\c.retained<=1000)/\c.secret.length<=200
def rightS(s:Sc):Prop:=cfOK s.cf/\(2<=s.pages/\s.pages<=4096)/\s.ts.length<=2000/\∀t∈s.ts,rightT t
def headL(c:CfV)(pages:Int):List Int:=[c.window,c.room,c.inbox,c.subs,c.sessions,c.retained,pages]
section
variable (C:PkCode)
def rawS(s:Sc):List UInt8:=(headL s.cf s.pages).flatMap (fun z=>numB 2 z.toNat)++(txtB s.cf.secret++s.ts.flatMap (turnB C))
def rTwoI(l:List UInt8):Option (Int×List UInt8):=(rNum 2 l).bind fun c=>some ((c.1:Int),c.2)
def rScript(u:Bool)(l:List UInt8):Option Sc:=
 (rMany rTwoI 7 l).bind fun h=>(rTxt h.2).bind fun s=>(rAll (rTurn C u) s.2.length s.2).bind fun ts=>
  match h.1 with
  | [a,b,c,d,e,f,g]=>some ⟨⟨a,b,c,d,e,f,s.1⟩,g,ts⟩
  | _=>none
theorem rTwoI_B{z:Int}(h:0<=z/\z<=65535)(r:List UInt8):rTwoI (numB 2 z.toNat++r)=some (z,r):=by unfold rTwoI;rw[rNum_numB 2 _ (by omega),Option.bind_some];dsimp only;rw[Int.toNat_of_nonneg (by omega)]
theorem rTwoI_some{l r:List UInt8}{c:Int}(h:rTwoI l=some (c,r)):l=numB 2 c.toNat++r:=by
 unfold rTwoI at h;cases h1:rNum 2 l with
 | none=>rw[h1]at h;cases h
 |some t=>rw[h1,Option.bind_some]at h;cases h;rw[(rNum_some h1).1];simp
theorem rScript_B{u:Bool}{s:Sc}(h:rightS s):rScript C u (rawS C s)=some s:=by
 obtain⟨⟨h1,h2,h3,h4,h5,h6,h7⟩,h8,h9,h10⟩:=h;have hh:∀z∈headL s.cf s.pages,0<=z/\z<=65535:=by intro z hz;simp only[headL,List.mem_cons,List.not_mem_nil,or_false]at hz;rcases hz with rfl | rfl | rfl | rfl | rfl | rfl | rfl<;>omega
 unfold rScript rawS;have e7:(headL s.cf s.pages).length=7:=rfl;rw[<-e7,rMany_flat rTwoI (fun z=>numB 2 z.toNat) (fun z=>0<=z/\z<=65535) (fun z r hz=>rTwoI_B hz r) _ _ hh,Option.bind_some];dsimp only;rw[rTxt_txtB _ (by omega),Option.bind_some];dsimp only;rw[rAll_flat (rTurn C u) (turnB C) rightT (fun t r ht=>rTurn_B C ht r) (turnB_ne C) _ _ h10 nat_le_rfl,Option.bind_some];rfl
end
end
theorem numB_1(n:Nat)(h:n<256):numB 1 n=[UInt8.ofNat n]:=by simp[numB,Nat.mod_eq_of_lt h]
theorem numB_2(n:Nat):numB 2 n=[UInt8.ofNat (n / 256%256),UInt8.ofNat (n%256)]:=by simp[numB]
section
attribute [local go_sem] Oper.semAt_some
theorem wLm{P:Program}{w:World}{ops:Array Oper}{rest:List Oper}{op:Oper}{a:Act}{Q:Exit->Act->World->Prop}(ty:TypeId){x:Operand}(ho:op.op=.load ty x){b j:Nat}{cs:List Value}(hx:a.eval x=.pointer (some ⟨b,j,none⟩))(hr:w.rangeAt b j cs){d:TypeDesc}(hu:P.underlying ty=some d)
  (h:wpList P ops Q rest (a.put op.dst (.agg cs.toArray)) w) (hgd:op.guard=none:=by rfl) (hd:d.isRow=true:=by rfl) (hi:(P.info? ty).map (·.size)=some cs.length:=by kernel_rfl):wpList P ops Q (op::rest) a w:=by
 refine wpList_plain hgd fun K hK=>?_;have hl:=run_loadAt_mid (P:=P) w b j ty cs d hr hu hd hi;unfold Oper.wp execOp;simp only[ho,hx,Sem.run_bind,hl,Result.andThen_ok,Sem.run_pure];exact hK _ _ h
theorem Blk.mid{w:World}{b:Nat}{cs:Array Value}{T:TypeId}(h:Blk w b cs T)(pre mid post:List Value)(e:cs.toList=pre++mid++post):w.rangeAt b pre.length mid:=fun j v hj=>by have hlt:=(List.getElem?_eq_some_iff.1 hj).1;rw[show(⟨b,pre.length+j,none⟩:Addr)=⟨b,pre.length+j,none⟩from rfl,h.cell,<-Array.getElem?_toList,e,List.append_assoc,List.getElem?_append_right (by omega),Nat.add_sub_cancel_left,List.getElem?_append_left hlt];exact hj
theorem wBuild{P:Program}{w:World}{ops:Array Oper}{rest:List Oper}{op:Oper}{a:Act}{Q:Exit->Act->World->Prop}(ty:TypeId){parts:Array (Nat×Operand)}(ho:op.op=.build ty parts)(vs:Array (Nat×Value))(hv:parts.toList.map (fun p=>(p.1,a.eval p.2))=vs.toList)(v:Value)
  (hr:∀W,(Instr.build ty vs).run P W=.ok v W) (h:wpList P ops Q rest (a.put op.dst v) w) (hgd:op.guard=none:=by rfl):wpList P ops Q (op::rest) a w:=by
 have hv:parts.map (fun p=>(p.1,a.eval p.2))=vs:=by apply Array.ext';rw[Array.toList_map];exact hv
 refine wpList_plain hgd fun K hK=>?_;unfold Oper.wp execOp;simp only[ho,hv,Sem.run_bind,hr,Result.andThen_ok,Sem.run_pure];exact hK _ _ h
theorem build_say(c:Int)(p:Pk)(h:H3)(W:World):(Instr.build 55 #[(1,.int .i64 c),(2,.agg (p.cells h).toArray)]).run prog W=.ok (.agg (({zTn 0 with conn:=c,pk:=p}:Tn).cells h ⟨none,0,0⟩).toArray) W:=by kernel_rfl
def hdZ:Hd:=⟨none,0,0⟩
def h3Z:H3:=⟨hdZ,hdZ,hdZ⟩
theorem Tn.one(t:Tn)(h:H3)(hp:Hd):∀v∈(t.cells h hp).toArray.toList,v.oneCell'=true:=by intro v hv;simp only[Tn.cells,List.mem_cons,List.not_mem_nil,or_false]at hv;rcases hv with h | h | h | h | h | h | h | h | h | h | h | h | h | h | h | h | h | h | h | h | h | h | h | h | h | h | h | h | h | h<;>(subst h;rfl)
theorem Pk.one(p:Pk)(h:H3):∀v∈(p.cells h).toArray.toList,v.oneCell'=true:=by intro v hv;simp only[Pk.cells,List.mem_cons,List.not_mem_nil,or_false]at hv;rcases hv with h | h | h | h | h | h | h | h | h | h | h | h | h | h | h | h | h | h | h | h | h | h | h | h<;>(subst h;rfl)
def zTc:Array Value:=((zTn 0).cells h3Z hdZ).toArray
theorem sc_has2(t:Tn)(h:H3)(hp:Hd)(w:World):Calls prog 46 #[.agg (t.cells h hp).toArray] w fun e w'=>e=.returned (.agg (({zTn 0 with conn:=t.conn}:Tn).cells h3Z hdZ).toArray)/\Below w.heap.size w w':=by
 obtain⟨cs,hcs⟩:=gen_of ((t.cells h hp).toArray);have hB:Blk (w.alloc (.cells cs 55)) w.heap.size cs 55:=Blk.new _ _ _;have hB2:Blk ((w.alloc (.cells cs 55)).alloc (.cells zTc 55)) w.heap.size cs 55:=hB.alloc _;have hZ:Blk ((w.alloc (.cells cs 55)).alloc (.cells zTc 55)) (w.heap.size+1) zTc 55:=by have:=Blk.new (w.alloc (.cells cs 55)) zTc 55;simpa using this
 have hb2:Below w.heap.size w ((w.alloc (.cells cs 55)).alloc (.cells zTc 55)):=(bel_refl.alloc nat_le_rfl _).alloc (by simp) _
 (have k1:∀o,((w.alloc (.cells cs 55)).alloc o).cell? ⟨w.heap.size,1,none⟩=some (.int .i64 t.conn):=fun o=>by rw[(hB.alloc o).cell,<-hcs];rfl)
 have hone:=hid (Tn.one ({zTn 0 with conn:=t.conn}:Tn) h3Z hdZ);rw[hcs];clear hcs hB hB2;replace hb2:=hid hb2;unfold zTc at*
 go_enter func46,ntmps46;go_wp2_with (first
  | (refine wS 55 30 rfl (w.heap.size+1) _ _ rfl rfl hZ rfl rfl hone.out ?_;intro w2 hw2 hr2)
  )
 refine bodyPost_ret (results_cell1 results46 rfl (run_loadVar_blk hw2 55 underlying55 rfl (by kernel_rfl))) rfl ⟨rfl,hb2.trans (hr2.below (by simp;omega) (by simp))⟩
theorem sc_has5(t:Tn)(h:H3)(hp:Hd)(w:World):Calls prog 49 #[.agg (t.cells h hp).toArray] w fun e w'=>e=.returned (.agg (({zTn 0 with conn:=0}:Tn).cells h3Z hdZ).toArray)/\Below w.heap.size w w':=by
 obtain⟨cs,hcs⟩:=gen_of ((t.cells h hp).toArray);have hB:Blk (w.alloc (.cells cs 55)) w.heap.size cs 55:=Blk.new _ _ _;have hB2:Blk ((w.alloc (.cells cs 55)).alloc (.cells zTc 55)) w.heap.size cs 55:=hB.alloc _;have hZ:Blk ((w.alloc (.cells cs 55)).alloc (.cells zTc 55)) (w.heap.size+1) zTc 55:=by have:=Blk.new (w.alloc (.cells cs 55)) zTc 55;simpa using this
 have hb2:Below w.heap.size w ((w.alloc (.cells cs 55)).alloc (.cells zTc 55)):=(bel_refl.alloc nat_le_rfl _).alloc (by simp) _;skip;have hone:=hid (Tn.one ({zTn 0 with conn:=0}:Tn) h3Z hdZ);rw[hcs];clear hcs hB hB2;replace hb2:=hid hb2;unfold zTc at*
 go_enter func49,ntmps49;go_wp2_with (first
  | (refine wS 55 30 rfl (w.heap.size+1) _ _ rfl rfl hZ rfl rfl hone.out ?_;intro w2 hw2 hr2)
  )
 refine bodyPost_ret (results_cell1 results49 rfl (run_loadVar_blk hw2 55 underlying55 rfl (by kernel_rfl))) rfl ⟨rfl,hb2.trans (hr2.below (by simp;omega) (by simp))⟩
theorem sc_has7(t:Tn)(h:H3)(hp:Hd)(w:World):Calls prog 52 #[.agg (t.cells h hp).toArray] w fun e w'=>e=.returned (.agg (({zTn 0 with conn:=t.conn,pk:=t.pk}:Tn).cells h hdZ).toArray)/\Below w.heap.size w w':=by
 obtain⟨cs,hcs⟩:=gen_of ((t.cells h hp).toArray);have hB:Blk (w.alloc (.cells cs 55)) w.heap.size cs 55:=Blk.new _ _ _;have hB2:Blk ((w.alloc (.cells cs 55)).alloc (.cells zTc 55)) w.heap.size cs 55:=hB.alloc _;have hZ:Blk ((w.alloc (.cells cs 55)).alloc (.cells zTc 55)) (w.heap.size+1) zTc 55:=by have:=Blk.new (w.alloc (.cells cs 55)) zTc 55;simpa using this
 have hb2:Below w.heap.size w ((w.alloc (.cells cs 55)).alloc (.cells zTc 55)):=(bel_refl.alloc nat_le_rfl _).alloc (by simp) _
 (have k1:∀o,((w.alloc (.cells cs 55)).alloc o).cell? ⟨w.heap.size,1,none⟩=some (.int .i64 t.conn):=fun o=>by rw[(hB.alloc o).cell,<-hcs];rfl);(have hpk:=hB2.mid [.int .i64 t.kind,.int .i64 t.conn] (t.pk.cells h) [.string ⟨t.bytes.toArray⟩,.int .i64 t.arm,.int .i64 t.n,.slice hp.a hp.n hp.c] (by rw[<-hcs];rfl))
 have hone:=hid (Tn.one ({zTn 0 with conn:=t.conn,pk:=t.pk}:Tn) h hdZ);rw[hcs];clear hcs hB hB2;replace hb2:=hid hb2;unfold zTc at*
 go_enter func52,ntmps52;go_wp2_with (first
  | (refine wS 55 30 rfl (w.heap.size+1) _ _ rfl rfl hZ rfl rfl hone.out ?_;intro w2 hw2 hr2)
  | (refine wLm 52 rfl rfl hpk underlying52 ?_) | (refine wBuild 55 rfl #[(1,.int .i64 t.conn),(2,.agg (t.pk.cells h).toArray)] rfl _ (build_say t.conn t.pk h) ?_))
 refine bodyPost_ret (results_cell1 results52 rfl (run_loadVar_blk hw2 55 underlying55 rfl (by kernel_rfl))) rfl ⟨rfl,hb2.trans (hr2.below (by simp;omega) (by simp))⟩
theorem sc_has11(t:Tn)(h:H3)(hp:Hd)(w:World):Calls prog 59 #[.agg (t.cells h hp).toArray] w fun e w'=>e=.returned (.agg (({zTn 0 with conn:=t.conn,bytes:=t.bytes}:Tn).cells h3Z hdZ).toArray)/\Below w.heap.size w w':=by
 obtain⟨cs,hcs⟩:=gen_of ((t.cells h hp).toArray);have hB:Blk (w.alloc (.cells cs 55)) w.heap.size cs 55:=Blk.new _ _ _;have hB2:Blk ((w.alloc (.cells cs 55)).alloc (.cells zTc 55)) w.heap.size cs 55:=hB.alloc _;have hZ:Blk ((w.alloc (.cells cs 55)).alloc (.cells zTc 55)) (w.heap.size+1) zTc 55:=by have:=Blk.new (w.alloc (.cells cs 55)) zTc 55;simpa using this
 have hb2:Below w.heap.size w ((w.alloc (.cells cs 55)).alloc (.cells zTc 55)):=(bel_refl.alloc nat_le_rfl _).alloc (by simp) _
 (have k1:∀o,((w.alloc (.cells cs 55)).alloc o).cell? ⟨w.heap.size,1,none⟩=some (.int .i64 t.conn):=fun o=>by rw[(hB.alloc o).cell,<-hcs];rfl);(have k26:∀o,((w.alloc (.cells cs 55)).alloc o).cell? ⟨w.heap.size,26,none⟩=some (.string ⟨t.bytes.toArray⟩):=fun o=>by rw[(hB.alloc o).cell,<-hcs];rfl)
 have hone:=hid (Tn.one ({zTn 0 with conn:=t.conn,bytes:=t.bytes}:Tn) h3Z hdZ);rw[hcs];clear hcs hB hB2;replace hb2:=hid hb2;unfold zTc at*
 go_enter func59,ntmps59;go_wp2_with (first
  | (refine wS 55 30 rfl (w.heap.size+1) _ _ rfl rfl hZ rfl rfl hone.out ?_;intro w2 hw2 hr2)
  )
 refine bodyPost_ret (results_cell1 results59 rfl (run_loadVar_blk hw2 55 underlying55 rfl (by kernel_rfl))) rfl ⟨rfl,hb2.trans (hr2.below (by simp;omega) (by simp))⟩
theorem sc_has15(t:Tn)(h:H3)(hp:Hd)(w:World):Calls prog 63 #[.agg (t.cells h hp).toArray] w fun e w'=>e=.returned (.agg (({zTn 0 with arm:=t.arm,n:=t.n}:Tn).cells h3Z hdZ).toArray)/\Below w.heap.size w w':=by
 obtain⟨cs,hcs⟩:=gen_of ((t.cells h hp).toArray);have hB:Blk (w.alloc (.cells cs 55)) w.heap.size cs 55:=Blk.new _ _ _;have hB2:Blk ((w.alloc (.cells cs 55)).alloc (.cells zTc 55)) w.heap.size cs 55:=hB.alloc _;have hZ:Blk ((w.alloc (.cells cs 55)).alloc (.cells zTc 55)) (w.heap.size+1) zTc 55:=by have:=Blk.new (w.alloc (.cells cs 55)) zTc 55;simpa using this
 have hb2:Below w.heap.size w ((w.alloc (.cells cs 55)).alloc (.cells zTc 55)):=(bel_refl.alloc nat_le_rfl _).alloc (by simp) _
 (have k27:∀o,((w.alloc (.cells cs 55)).alloc o).cell? ⟨w.heap.size,27,none⟩=some (.int .i64 t.arm):=fun o=>by rw[(hB.alloc o).cell,<-hcs];rfl);(have k28:∀o,((w.alloc (.cells cs 55)).alloc o).cell? ⟨w.heap.size,28,none⟩=some (.int .i64 t.n):=fun o=>by rw[(hB.alloc o).cell,<-hcs];rfl)
 have hone:=hid (Tn.one ({zTn 0 with arm:=t.arm,n:=t.n}:Tn) h3Z hdZ);rw[hcs];clear hcs hB hB2;replace hb2:=hid hb2;unfold zTc at*
 go_enter func63,ntmps63;go_wp2_with (first
  | (refine wS 55 30 rfl (w.heap.size+1) _ _ rfl rfl hZ rfl rfl hone.out ?_;intro w2 hw2 hr2)
  )
 refine bodyPost_ret (results_cell1 results63 rfl (run_loadVar_blk hw2 55 underlying55 rfl (by kernel_rfl))) rfl ⟨rfl,hb2.trans (hr2.below (by simp;omega) (by simp))⟩
theorem sc_has19(t:Tn)(h:H3)(hp:Hd)(w:World):Calls prog 70 #[.agg (t.cells h hp).toArray] w fun e w'=>e=.returned (.agg (({zTn 0 with picks:=t.picks}:Tn).cells h3Z hp).toArray)/\Below w.heap.size w w':=by
 obtain⟨cs,hcs⟩:=gen_of ((t.cells h hp).toArray);have hB:Blk (w.alloc (.cells cs 55)) w.heap.size cs 55:=Blk.new _ _ _;have hB2:Blk ((w.alloc (.cells cs 55)).alloc (.cells zTc 55)) w.heap.size cs 55:=hB.alloc _;have hZ:Blk ((w.alloc (.cells cs 55)).alloc (.cells zTc 55)) (w.heap.size+1) zTc 55:=by have:=Blk.new (w.alloc (.cells cs 55)) zTc 55;simpa using this
 have hb2:Below w.heap.size w ((w.alloc (.cells cs 55)).alloc (.cells zTc 55)):=(bel_refl.alloc nat_le_rfl _).alloc (by simp) _
 (have k29:∀o,((w.alloc (.cells cs 55)).alloc o).cell? ⟨w.heap.size,29,none⟩=some (.slice hp.a hp.n hp.c):=fun o=>by rw[(hB.alloc o).cell,<-hcs];rfl)
 have hone:=hid (Tn.one ({zTn 0 with picks:=t.picks}:Tn) h3Z hp);rw[hcs];clear hcs hB hB2;replace hb2:=hid hb2;unfold zTc at*
 go_enter func70,ntmps70;go_wp2_with (first
  | (refine wS 55 30 rfl (w.heap.size+1) _ _ rfl rfl hZ rfl rfl hone.out ?_;intro w2 hw2 hr2)
  )
 refine bodyPost_ret (results_cell1 results70 rfl (run_loadVar_blk hw2 55 underlying55 rfl (by kernel_rfl))) rfl ⟨rfl,hb2.trans (hr2.below (by simp;omega) (by simp))⟩
theorem sc_may1(t:Tn)(h:H3)(hp:Hd)(w:World):Calls prog 45 #[.agg (t.cells h hp).toArray] w fun e w'=>e=.returned (.bool (decide (0<=t.conn)&&decide (t.conn<=65535)))/\Below w.heap.size w w':=by
 obtain⟨cs,hcs⟩:=gen_of ((t.cells h hp).toArray);have hB:Blk (w.alloc (.cells cs 55)) w.heap.size cs 55:=Blk.new _ _ _;have k1:(w.alloc (.cells cs 55)).cell? ⟨w.heap.size,1,none⟩=some (.int .i64 t.conn):=by rw[hB.cell,<-hcs];rfl
 have hb:Below w.heap.size w (w.alloc (.cells cs 55)):=bel_refl.alloc nat_le_rfl _;replace hb:=hid hb;rw[hcs];clear hcs hB;obtain⟨z,hz⟩:=gen_of t.conn;rw[hz]at k1 ⊢;clear hz;by_cases h1:0<=z
 ·by_cases h2:z<=65535<;>
  ·go_enter func45,ntmps45;go_wp2;go_ret;exact⟨by simp[h1,h2],hb.out⟩
 ·go_enter func45,ntmps45;go_wp2;go_ret;exact⟨by rw[show decide (0<=z)=false from decide_eq_false (by omega),Bool.false_and];rfl,hb.out⟩
theorem sc_write3(a b:Array Value)(w:World):Calls prog 47 #[.agg a,.agg b] w fun e w'=>e=.returned (.tuple #[])/\Below w.heap.size w w':=by
 have hb:Below w.heap.size w ((w.alloc (.cells a 102)).alloc (.cells b 55)):=(bel_refl.alloc nat_le_rfl _).alloc (by simp) _;go_enter func47,ntmps47;go_wp2
 go_end0
 exact⟨rfl,hb⟩
theorem sc_read4(a:Array Value)(p:Value)(w:World):Calls prog 48 #[.agg a,p] w fun e w'=>e=.returned (.tuple #[])/\Below w.heap.size w w':=by
 have hb:Below w.heap.size w (w.alloc (.cells a 61)):=bel_refl.alloc nat_le_rfl _;go_enter func48,ntmps48;go_wp2
 go_end0
 exact⟨rfl,hb⟩
def iVl(z:Int):Value:=.int .i64 z
def sVl(s:List UInt8):Value:=.string ⟨s.toArray⟩
def wVl(x:WantV):Value:=.agg #[.string ⟨x.filter.toArray⟩,.int .i64 x.qos]
theorem neq_i(x y:Int)(W:World):(binOp .neq 3 (iVl x) (iVl y)).run prog W=.ok (.bool (!decide (x=y))) W:=by unfold iVl;go_simp;by_cases h:x=y<;>simp[h]
theorem neq_s(x y:List UInt8)(W:World):(binOp .neq 9 (sVl x) (sVl y)).run prog W=.ok (.bool (!decide (x=y))) W:=by unfold sVl;go_simp;by_cases h:x=y<;>simp[h]
theorem WantV.eqs(x y:WantV):x=y↔x.filter=y.filter/\x.qos=y.qos:=by obtain⟨a,b⟩:=x;obtain⟨c,d⟩:=y;simp
instance:DecidableEq WantV:=fun x y=>decidable_of_iff _ (WantV.eqs x y).symm
theorem neq_w(x y:WantV)(W:World):(binOp .neq 169 (wVl x) (wVl y)).run prog W=.ok (.bool (!decide (x=y))) W:=by obtain⟨a,b⟩:=x;obtain⟨c,d⟩:=y;unfold wVl;go_simp;by_cases h1:a=c<;>by_cases h2:b=d<;>simp[h1,h2]
theorem gu_i(x y:Int)(s1 s2:Operand)(W:World):(eqGuard .neq 3 s1 s2 (iVl x) (iVl y)).run prog W=.ok () W:=by unfold iVl;go_simp
theorem gu_s(x y:List UInt8)(s1 s2:Operand)(W:World):(eqGuard .neq 9 s1 s2 (sVl x) (sVl y)).run prog W=.ok () W:=by unfold sVl;go_simp
theorem gu_w(x y:WantV)(s1 s2:Operand)(W:World):(eqGuard .neq 169 s1 s2 (wVl x) (wVl y)).run prog W=.ok () W:=by unfold wVl;go_simp
theorem sl_EqualI{w:World}{a1 a2:Option Addr}{n1 n2 c1 c2:Nat}{xs ys:List Int}(h1:LsAt iCl 1 w a1 n1 c1 xs)(h2:LsAt iCl 1 w a2 n2 c2 ys):
  Calls prog 82 #[.slice a1 n1 c1,.slice a2 n2 c2] w fun e w'=>∃b:Bool,e=.returned (.bool b)/\(b=true↔xs=ys)/\Below w.heap.size w w':=by
 have hn1:=hid h1.len;have hn2:=hid h2.len;have V1:=hid h1;have V2:=hid h2;have hm:n1<=9223372036854775807:=by have:=h1.le;have:=h1.max;unfold maxLen at this;omega
 have hm2:n2<=9223372036854775807:=by have:=h2.le;have:=h2.max;unfold maxLen at this;omega
 clear h1 h2;by_cases hne:n1=n2
 ·subst hne;clear hm2;have dn:((n1:Int)==(n1:Int))=true:=by simp
  obtain⟨zn,hzn⟩:∃zn:Int,zn=(n1:Int):=⟨_,rfl⟩;go_enter func82,ntmps82;go_wp2_with fail
  go_loopw [13] (fun i wr=>∃k:Nat,i=.int .i64 k/\k<=n1/\Hid (Below w.heap.size w wr)/\Hid (∀j,j<k->xs[j]?=ys[j]?)) (fun i _=>n1-(intOf i).toNat)
  case atStart=>exact⟨0,rfl,Nat.zero_le _,hid bel_refl,hid fun j h=>absurd h (by omega)⟩
  case round=>
   obtain⟨k,rfl,hk1,hbr,hall⟩:=hrel;rcases Nat.lt_or_ge k n1 with hlt | hge
   ·have dk:decide ((k:Int)<(n1:Int))=true:=decide_eq_true (by omega);obtain⟨x,hx⟩:∃x,xs[k]?=some x:=⟨_,List.getElem?_eq_getElem (by rw[hn1.out];omega)⟩;obtain⟨y,hy⟩:∃y,ys[k]?=some y:=⟨_,List.getElem?_eq_getElem (by rw[hn2.out];omega)⟩;obtain⟨g1,o1,ha1,hr1⟩:=V1.range hx;obtain⟨g2,o2,ha2,hr2⟩:=V2.range hy;have hc1:=hr1 _ hbr.out.drew;have hc2:=hr2 _ hbr.out.drew;subst ha1;subst ha2;have hbw:=hid hbr.out.drew;obtain⟨bv,hbv⟩:=gen_of (decide (x=y));have hq:=neq_i x y;have hg:=gu_i x y;rw[hbv]at hq;obtain⟨xv,hxv⟩:=gen_of (iVl x);obtain⟨yv,hyv⟩:=gen_of (iVl y);have hc1:wr.drew.cell? ⟨g1,o1+k,none⟩=some xv:=by rw[<-hxv];simpa using hc1 0 (iVl x) rfl
    have hc2:wr.drew.cell? ⟨g2,o2+k,none⟩=some yv:=by rw[<-hyv];simpa using hc2 0 (iVl y) rfl
    rw[hxv,hyv]at hq hg;replace hxv:=hid hxv;replace hyv:=hid hyv;replace hx:=hid hx;replace hy:=hid hy;replace hbv:=hid hbv;clear hr1 hr2 hbr;go_wp2_with fail;refine regionQ [(1000,fun w'=>w'.cell? ⟨g1,o1+k,none⟩=some xv),(1000,fun w'=>w'.cell? ⟨g2,o2+k,none⟩=some yv)] (by kernel_rfl) ⟨hc1,hc2,trivial⟩ fun KQ hKQ=>?_;refine tQ [0,1,2] ?_;refine lR 3 0 rfl rfl rfl rfl (fun w' hf=>by(have k0:=hf;go_simp<;>with_reducible rfl)) ?_;simp only[PT];refine tQ [4,5,6] ?_;refine lR 7 1 rfl rfl rfl rfl (fun w' hf=>by(have k0:=hf;go_simp<;>with_reducible rfl)) ?_;simp only[PT];refine tQ [8] ?_;refine dQ (hKQ.out _ _ ?_);clear hKQ KQ;rcases bv with _ | _
    ·go_wp2_with fail
     go_ret;refine⟨false,rfl,⟨fun h=>(by cases h),fun h=>?_⟩,hbw.out⟩;subst h;have h7:=hx.symm.trans hy.out;cases h7;have h8:=hbv.out;simp at h8
    go_wp2_with fail
    go_roundw
    case rel=>
     refine⟨k+1,by go_num,by omega,hbw,hid fun j hj=>?_⟩;by_cases hjk:j=k
     ·subst hjk;rw[hx.out,hy.out,of_decide_eq_true hbv.out]
     exact hall.out j (by omega)
    case measure=>simp[intOf];omega
   obtain rfl:k=n1:=by omega
   have dk:decide ((k:Int)<(k:Int))=false:=by simp
   go_wp2_with fail
   go_ret;refine⟨true,rfl,⟨fun _=>?_,fun _=>rfl⟩,hbr.out⟩;apply List.ext_getElem?;intro j;rcases Nat.lt_or_ge j k with h7 | h7
   ·exact hall.out j h7
   rw[List.getElem?_eq_none (by rw[hn1.out];exact h7),List.getElem?_eq_none (by rw[hn2.out];exact h7)]
 have dn:((n1:Int)==(n2:Int))=false:=by simpa using fun h=>hne (by omega)
 go_enter func82,ntmps82;go_wp2_with fail
 go_ret;refine⟨false,rfl,⟨fun h=>(by cases h),fun h=>absurd (by rw[<-hn1.out,<-hn2.out,h]) hne⟩,Below.refl _ _⟩
theorem sl_EqualS{w:World}{a1 a2:Option Addr}{n1 n2 c1 c2:Nat}{xs ys:List (List UInt8)}(h1:LsAt sCl 1 w a1 n1 c1 xs)(h2:LsAt sCl 1 w a2 n2 c2 ys):
  Calls prog 106 #[.slice a1 n1 c1,.slice a2 n2 c2] w fun e w'=>∃b:Bool,e=.returned (.bool b)/\(b=true↔xs=ys)/\Below w.heap.size w w':=by
 have hn1:=hid h1.len;have hn2:=hid h2.len;have V1:=hid h1;have V2:=hid h2;have hm:n1<=9223372036854775807:=by have:=h1.le;have:=h1.max;unfold maxLen at this;omega
 have hm2:n2<=9223372036854775807:=by have:=h2.le;have:=h2.max;unfold maxLen at this;omega
 clear h1 h2;by_cases hne:n1=n2
 ·subst hne;clear hm2;have dn:((n1:Int)==(n1:Int))=true:=by simp
  obtain⟨zn,hzn⟩:∃zn:Int,zn=(n1:Int):=⟨_,rfl⟩;go_enter func106,ntmps106;go_wp2_with fail
  go_loopw [13] (fun i wr=>∃k:Nat,i=.int .i64 k/\k<=n1/\Hid (Below w.heap.size w wr)/\Hid (∀j,j<k->xs[j]?=ys[j]?)) (fun i _=>n1-(intOf i).toNat)
  case atStart=>exact⟨0,rfl,Nat.zero_le _,hid bel_refl,hid fun j h=>absurd h (by omega)⟩
  case round=>
   obtain⟨k,rfl,hk1,hbr,hall⟩:=hrel;rcases Nat.lt_or_ge k n1 with hlt | hge
   ·have dk:decide ((k:Int)<(n1:Int))=true:=decide_eq_true (by omega);obtain⟨x,hx⟩:∃x,xs[k]?=some x:=⟨_,List.getElem?_eq_getElem (by rw[hn1.out];omega)⟩;obtain⟨y,hy⟩:∃y,ys[k]?=some y:=⟨_,List.getElem?_eq_getElem (by rw[hn2.out];omega)⟩;obtain⟨g1,o1,ha1,hr1⟩:=V1.range hx;obtain⟨g2,o2,ha2,hr2⟩:=V2.range hy;have hc1:=hr1 _ hbr.out.drew;have hc2:=hr2 _ hbr.out.drew;subst ha1;subst ha2;have hbw:=hid hbr.out.drew;obtain⟨bv,hbv⟩:=gen_of (decide (x=y));have hq:=neq_s x y;have hg:=gu_s x y;rw[hbv]at hq;obtain⟨xv,hxv⟩:=gen_of (sVl x);obtain⟨yv,hyv⟩:=gen_of (sVl y);have hc1:wr.drew.cell? ⟨g1,o1+k,none⟩=some xv:=by rw[<-hxv];simpa using hc1 0 (sVl x) rfl
    have hc2:wr.drew.cell? ⟨g2,o2+k,none⟩=some yv:=by rw[<-hyv];simpa using hc2 0 (sVl y) rfl
    rw[hxv,hyv]at hq hg;replace hxv:=hid hxv;replace hyv:=hid hyv;replace hx:=hid hx;replace hy:=hid hy;replace hbv:=hid hbv;clear hr1 hr2 hbr;go_wp2_with fail;refine regionQ [(1000,fun w'=>w'.cell? ⟨g1,o1+k,none⟩=some xv),(1000,fun w'=>w'.cell? ⟨g2,o2+k,none⟩=some yv)] (by kernel_rfl) ⟨hc1,hc2,trivial⟩ fun KQ hKQ=>?_;refine tQ [0,1,2] ?_;refine lR 3 0 rfl rfl rfl rfl (fun w' hf=>by(have k0:=hf;go_simp<;>with_reducible rfl)) ?_;simp only[PT];refine tQ [4,5,6] ?_;refine lR 7 1 rfl rfl rfl rfl (fun w' hf=>by(have k0:=hf;go_simp<;>with_reducible rfl)) ?_;simp only[PT];refine tQ [8] ?_;refine dQ (hKQ.out _ _ ?_);clear hKQ KQ;rcases bv with _ | _
    ·go_wp2_with fail
     go_ret;refine⟨false,rfl,⟨fun h=>(by cases h),fun h=>?_⟩,hbw.out⟩;subst h;have h7:=hx.symm.trans hy.out;cases h7;have h8:=hbv.out;simp at h8
    go_wp2_with fail
    go_roundw
    case rel=>
     refine⟨k+1,by go_num,by omega,hbw,hid fun j hj=>?_⟩;by_cases hjk:j=k
     ·subst hjk;rw[hx.out,hy.out,of_decide_eq_true hbv.out]
     exact hall.out j (by omega)
    case measure=>simp[intOf];omega
   obtain rfl:k=n1:=by omega
   have dk:decide ((k:Int)<(k:Int))=false:=by simp
   go_wp2_with fail
   go_ret;refine⟨true,rfl,⟨fun _=>?_,fun _=>rfl⟩,hbr.out⟩;apply List.ext_getElem?;intro j;rcases Nat.lt_or_ge j k with h7 | h7
   ·exact hall.out j h7
   rw[List.getElem?_eq_none (by rw[hn1.out];exact h7),List.getElem?_eq_none (by rw[hn2.out];exact h7)]
 have dn:((n1:Int)==(n2:Int))=false:=by simpa using fun h=>hne (by omega)
 go_enter func106,ntmps106;go_wp2_with fail
 go_ret;refine⟨false,rfl,⟨fun h=>(by cases h),fun h=>absurd (by rw[<-hn1.out,<-hn2.out,h]) hne⟩,Below.refl _ _⟩
theorem sl_EqualW{w:World}{a1 a2:Option Addr}{n1 n2 c1 c2:Nat}{xs ys:List WantV}(h1:LsAt WantV.cl 2 w a1 n1 c1 xs)(h2:LsAt WantV.cl 2 w a2 n2 c2 ys):
  Calls prog 105 #[.slice a1 n1 c1,.slice a2 n2 c2] w fun e w'=>∃b:Bool,e=.returned (.bool b)/\(b=true↔xs=ys)/\Below w.heap.size w w':=by
 have hn1:=hid h1.len;have hn2:=hid h2.len;have V1:=hid h1;have V2:=hid h2;have hm:n1<=9223372036854775807:=by have:=h1.le;have:=h1.max;unfold maxLen at this;omega
 have hm2:n2<=9223372036854775807:=by have:=h2.le;have:=h2.max;unfold maxLen at this;omega
 clear h1 h2;by_cases hne:n1=n2
 ·subst hne;clear hm2;have dn:((n1:Int)==(n1:Int))=true:=by simp
  obtain⟨zn,hzn⟩:∃zn:Int,zn=(n1:Int):=⟨_,rfl⟩;go_enter func105,ntmps105;go_wp2_with fail
  go_loopw [13] (fun i wr=>∃k:Nat,i=.int .i64 k/\k<=n1/\Hid (Below w.heap.size w wr)/\Hid (∀j,j<k->xs[j]?=ys[j]?)) (fun i _=>n1-(intOf i).toNat)
  case atStart=>exact⟨0,rfl,Nat.zero_le _,hid bel_refl,hid fun j h=>absurd h (by omega)⟩
  case round=>
   obtain⟨k,rfl,hk1,hbr,hall⟩:=hrel;rcases Nat.lt_or_ge k n1 with hlt | hge
   ·have dk:decide ((k:Int)<(n1:Int))=true:=decide_eq_true (by omega);obtain⟨x,hx⟩:∃x,xs[k]?=some x:=⟨_,List.getElem?_eq_getElem (by rw[hn1.out];omega)⟩;obtain⟨y,hy⟩:∃y,ys[k]?=some y:=⟨_,List.getElem?_eq_getElem (by rw[hn2.out];omega)⟩;obtain⟨g1,o1,ha1,hr1⟩:=V1.range hx;obtain⟨g2,o2,ha2,hr2⟩:=V2.range hy;have hc1:=hr1 _ hbr.out.drew;have hc2:=hr2 _ hbr.out.drew;subst ha1;subst ha2;have hbw:=hid hbr.out.drew;obtain⟨bv,hbv⟩:=gen_of (decide (x=y));have hq:=neq_w x y;have hg:=gu_w x y;rw[hbv]at hq;obtain⟨xv,hxv⟩:=gen_of (wVl x);obtain⟨yv,hyv⟩:=gen_of (wVl y);skip;skip;rw[hxv,hyv]at hq hg;replace hxv:=hid hxv;replace hyv:=hid hyv;replace hx:=hid hx;replace hy:=hid hy;replace hbv:=hid hbv;clear hr1 hr2 hbr;go_wp2_with fail;refine regionQ [(1000,fun w'=>w'.rangeAt g1 (o1+k*2) x.cl),(1000,fun w'=>w'.rangeAt g2 (o2+k*2) y.cl)] (by kernel_rfl) ⟨hc1,hc2,trivial⟩ fun KQ hKQ=>?_;refine tQ [0,1,2] ?_;refine lR 3 0 rfl rfl rfl rfl (v:=xv) (fun w' hf=>by rw[<-hxv.out];exact run_loadAt_mid w' _ _ 169 x.cl _ hf underlying169 rfl (by kernel_rfl)) ?_;try simp only[PT]
    refine tQ [4,5,6] ?_;refine lR 7 1 rfl rfl rfl rfl (v:=yv) (fun w' hf=>by rw[<-hyv.out];exact run_loadAt_mid w' _ _ 169 y.cl _ hf underlying169 rfl (by kernel_rfl)) ?_;try simp only[PT]
    refine tQ [8] ?_;refine dQ (hKQ.out _ _ ?_);clear hKQ KQ;rcases bv with _ | _
    ·go_wp2_with fail
     go_ret;refine⟨false,rfl,⟨fun h=>(by cases h),fun h=>?_⟩,hbw.out⟩;subst h;have h7:=hx.symm.trans hy.out;cases h7;have h8:=hbv.out;simp at h8
    go_wp2_with fail
    go_roundw
    case rel=>
     refine⟨k+1,by go_num,by omega,hbw,hid fun j hj=>?_⟩;by_cases hjk:j=k
     ·subst hjk;rw[hx.out,hy.out,of_decide_eq_true hbv.out]
     exact hall.out j (by omega)
    case measure=>simp[intOf];omega
   obtain rfl:k=n1:=by omega
   have dk:decide ((k:Int)<(k:Int))=false:=by simp
   go_wp2_with fail
   go_ret;refine⟨true,rfl,⟨fun _=>?_,fun _=>rfl⟩,hbr.out⟩;apply List.ext_getElem?;intro j;rcases Nat.lt_or_ge j k with h7 | h7
   ·exact hall.out j h7
   rw[List.getElem?_eq_none (by rw[hn1.out];exact h7),List.getElem?_eq_none (by rw[hn2.out];exact h7)]
 have dn:((n1:Int)==(n2:Int))=false:=by simpa using fun h=>hne (by omega)
 go_enter func105,ntmps105;go_wp2_with fail
 go_ret;refine⟨false,rfl,⟨fun h=>(by cases h),fun h=>absurd (by rw[<-hn1.out,<-hn2.out,h]) hne⟩,Below.refl _ _⟩
theorem r28_SamePicks{w:World}{a1 a2:Option Addr}{n1 n2 c1 c2:Nat}{xs ys:List Int}(h1:LsAt iCl 1 w a1 n1 c1 xs)(h2:LsAt iCl 1 w a2 n2 c2 ys):
  Calls prog 77 #[.slice a1 n1 c1,.slice a2 n2 c2] w fun e w'=>∃b:Bool,e=.returned (.bool b)/\(b=true↔xs=ys)/\Below w.heap.size w w':=by
 have hn1:=hid h1.len;have hn2:=hid h2.len;have V1:=hid h1;have V2:=hid h2;have hm:n1<=9223372036854775807:=by have:=h1.le;have:=h1.max;unfold maxLen at this;omega
 have hm2:n2<=9223372036854775807:=by have:=h2.le;have:=h2.max;unfold maxLen at this;omega
 clear h1 h2;by_cases hne:n1=n2
 ·subst hne;clear hm2;have dn:((n1:Int)==(n1:Int))=true:=by simp
  obtain⟨zn,hzn⟩:∃zn:Int,zn=(n1:Int):=⟨_,rfl⟩;go_enter func77,ntmps77;go_wp2_with fail
  go_loopw [5] (fun i wr=>∃k:Nat,i=.int .i64 k/\k<=n1/\Hid (Below w.heap.size w wr)/\Hid (∀j,j<k->xs[j]?=ys[j]?)) (fun i _=>n1-(intOf i).toNat)
  case atStart=>exact⟨0,rfl,Nat.zero_le _,hid bel_refl,hid fun j h=>absurd h (by omega)⟩
  case round=>
   obtain⟨k,rfl,hk1,hbr,hall⟩:=hrel;rcases Nat.lt_or_ge k n1 with hlt | hge
   ·have dk:decide ((k:Int)<(n1:Int))=true:=decide_eq_true (by omega);obtain⟨x,hx⟩:∃x,xs[k]?=some x:=⟨_,List.getElem?_eq_getElem (by rw[hn1.out];omega)⟩;obtain⟨y,hy⟩:∃y,ys[k]?=some y:=⟨_,List.getElem?_eq_getElem (by rw[hn2.out];omega)⟩;obtain⟨g1,o1,ha1,hr1⟩:=V1.range hx;obtain⟨g2,o2,ha2,hr2⟩:=V2.range hy;have hc1:=hr1 _ hbr.out.drew;have hc2:=hr2 _ hbr.out.drew;subst ha1;subst ha2;have hbw:=hid hbr.out.drew;obtain⟨bv,hbv⟩:=gen_of (decide (x=y));have hq:=neq_i x y;have hg:=gu_i x y;rw[hbv]at hq;obtain⟨xv,hxv⟩:=gen_of (iVl x);obtain⟨yv,hyv⟩:=gen_of (iVl y);have hc1:wr.drew.cell? ⟨g1,o1+k,none⟩=some xv:=by rw[<-hxv];simpa using hc1 0 (iVl x) rfl
    have hc2:wr.drew.cell? ⟨g2,o2+k,none⟩=some yv:=by rw[<-hyv];simpa using hc2 0 (iVl y) rfl
    rw[hxv,hyv]at hq hg;replace hxv:=hid hxv;replace hyv:=hid hyv;replace hx:=hid hx;replace hy:=hid hy;replace hbv:=hid hbv;clear hr1 hr2 hbr;go_wp2_with fail;refine regionQ [(1000,fun w'=>w'.cell? ⟨g1,o1+k,none⟩=some xv),(1000,fun w'=>w'.cell? ⟨g2,o2+k,none⟩=some yv)] (by kernel_rfl) ⟨hc1,hc2,trivial⟩ fun KQ hKQ=>?_;refine tQ [0,1,2] ?_;refine lR 3 0 rfl rfl rfl rfl (fun w' hf=>by(have k0:=hf;go_simp<;>with_reducible rfl)) ?_;simp only[PT];refine tQ [4,5,6] ?_;refine lR 7 1 rfl rfl rfl rfl (fun w' hf=>by(have k0:=hf;go_simp<;>with_reducible rfl)) ?_;simp only[PT];refine tQ [8] ?_;refine dQ (hKQ.out _ _ ?_);clear hKQ KQ;rcases bv with _ | _
    ·go_wp2_with fail
     go_ret;refine⟨false,rfl,⟨fun h=>(by cases h),fun h=>?_⟩,hbw.out⟩;subst h;have h7:=hx.symm.trans hy.out;cases h7;have h8:=hbv.out;simp at h8
    go_wp2_with fail
    go_roundw
    case rel=>
     refine⟨k+1,by go_num,by omega,hbw,hid fun j hj=>?_⟩;by_cases hjk:j=k
     ·subst hjk;rw[hx.out,hy.out,of_decide_eq_true hbv.out]
     exact hall.out j (by omega)
    case measure=>simp[intOf];omega
   obtain rfl:k=n1:=by omega
   have dk:decide ((k:Int)<(k:Int))=false:=by simp
   go_wp2_with fail
   go_ret;refine⟨true,rfl,⟨fun _=>?_,fun _=>rfl⟩,hbr.out⟩;apply List.ext_getElem?;intro j;rcases Nat.lt_or_ge j k with h7 | h7
   ·exact hall.out j h7
   rw[List.getElem?_eq_none (by rw[hn1.out];exact h7),List.getElem?_eq_none (by rw[hn2.out];exact h7)]
 have dn:((n1:Int)==(n2:Int))=false:=by simpa using fun h=>hne (by omega)
 go_enter func77,ntmps77;go_wp2_with fail
 go_ret;refine⟨false,rfl,⟨fun h=>(by cases h),fun h=>absurd (by rw[<-hn1.out,<-hn2.out,h]) hne⟩,Below.refl _ _⟩
end
section
theorem bk_BrB_c41{P:Prop}(h:P:=by
 refine stepM [4] (fun j hj=>?_);have hj:j=4:=by simpa using hj
 subst hj;refine⟨⟨_,rfl,by kernel_rfl,fun K hK=>?_⟩⟩;go_simp;replace BW:=BW.alloc BW.size (.map #[] 0);replace bW:=bW.alloc (.map #[] 0);replace F:=mapsNew F;refine hK _ _ ⟨⟨fun _=>bW,trivial⟩,?_⟩;clear hK K;obtain⟨m4,hm⟩:=gen_of W.heap.size;rw[hm]at F ⊢;obtain⟨W',hW'⟩:=gen_of (W.alloc (.map #[] 0));rw[hW']at BW bW F ⊢;clear hm hW' W;obtain⟨W,rfl⟩:∃X,X=W':=⟨_,rfl⟩;try simp only[PT]
 refine buildQ 5 #[(0,.pointer (some ⟨bk,0,none⟩)),(1,.agg cv),(3,.map (some m2)),(4,.map (some m3)),(5,.map (some m4))] _ rfl rfl rfl (hbd bk m2 m3 m4) ?_;try simp only[PT]
 refine sQ 6 fun K hK=>?_;simp only[GO];go_simp;refine hK _ _ ⟨⟨fun _=>bW.alloc _,trivial⟩,?_⟩;clear hK K;try simp only[PT]
 refine tQ [7] ?_;refine dQ (hKQ.out _ _ ?_);clear hKQ KQ;have hR:=hid (show BrI w c W.heap.size (W.alloc (.cells (brkC c bk m2 m3 m4) 217))from⟨BW.alloc BW.size _,bW.alloc _,_,_,_,_,Blk.new _ _ _,mapsOld F _ _ (by simp),mapsOld F _ _ (by simp)⟩);go_wp2;go_meet
 case rel=>exact⟨_,rfl,hR⟩):P:=h
theorem bk_BrB_c32{P:Prop}(h:P:=by
 refine stepM [3] (fun j hj=>?_);have hj:j=3:=by simpa using hj
 subst hj;refine⟨⟨_,rfl,by kernel_rfl,fun K hK=>?_⟩⟩;go_simp;replace BW:=BW.alloc BW.size (.map #[] 0);replace bW:=bW.alloc (.map #[] 0);replace F:=mapsNew F;refine hK _ _ ⟨⟨fun _=>bW,trivial⟩,?_⟩;clear hK K;obtain⟨m3,hm⟩:=gen_of W.heap.size;rw[hm]at F ⊢;obtain⟨W',hW'⟩:=gen_of (W.alloc (.map #[] 0));rw[hW']at BW bW F ⊢;clear hm hW' W;obtain⟨W,rfl⟩:∃X,X=W':=⟨_,rfl⟩;try simp only[PT]
 refine buildQ 5 #[(0,.pointer (some ⟨bk,0,none⟩)),(1,.agg cv),(3,.map (some m2)),(4,.map (some m3)),(5,.map (some m4))] _ rfl rfl rfl (hbd bk m2 m3 m4) ?_;try simp only[PT]
 refine sQ 6 fun K hK=>?_;simp only[GO];go_simp;refine hK _ _ ⟨⟨fun _=>bW.alloc _,trivial⟩,?_⟩;clear hK K;try simp only[PT]
 refine tQ [7] ?_;refine dQ (hKQ.out _ _ ?_);clear hKQ KQ;have hR:=hid (show BrI w c W.heap.size (W.alloc (.cells (brkC c bk m2 m3 m4) 217))from⟨BW.alloc BW.size _,bW.alloc _,_,_,_,_,Blk.new _ _ _,mapsOld F _ _ (by simp),mapsOld F _ _ (by simp)⟩);go_wp2;go_meet
 case rel=>exact⟨_,rfl,hR⟩):P:=h
theorem bk_BrB_c343{P:Prop}(h:P:=by
 refine stepM [3,4] (fun j hj=>?_);have hj:j=3\/j=4:=by simpa using hj
 rcases hj with rfl | rfl
 ·refine⟨⟨_,rfl,by kernel_rfl,fun K hK=>?_⟩⟩;go_simp;replace BW:=BW.alloc BW.size (.map #[] 0);replace bW:=bW.alloc (.map #[] 0);replace F:=mapsNew F;refine hK _ _ ⟨⟨fun _=>bW,trivial⟩,?_⟩;clear hK K;obtain⟨m3,hm⟩:=gen_of W.heap.size;rw[hm]at F ⊢;obtain⟨W',hW'⟩:=gen_of (W.alloc (.map #[] 0));rw[hW']at BW bW F ⊢;clear hm hW' W;obtain⟨W,rfl⟩:∃X,X=W':=⟨_,rfl⟩;try simp only[PT]
  exact bk_BrB_c41
 skip;refine⟨⟨_,rfl,by kernel_rfl,fun K hK=>?_⟩⟩;go_simp;replace BW:=BW.alloc BW.size (.map #[] 0);replace bW:=bW.alloc (.map #[] 0);replace F:=mapsNew F;refine hK _ _ ⟨⟨fun _=>bW,trivial⟩,?_⟩;clear hK K;obtain⟨m4,hm⟩:=gen_of W.heap.size;rw[hm]at F ⊢;obtain⟨W',hW'⟩:=gen_of (W.alloc (.map #[] 0));rw[hW']at BW bW F ⊢;clear hm hW' W;obtain⟨W,rfl⟩:∃X,X=W':=⟨_,rfl⟩;try simp only[PT]
 exact bk_BrB_c32):P:=h
theorem bk_BrB_c24{P:Prop}(h:P:=by
 refine stepM [2] (fun j hj=>?_);have hj:j=2:=by simpa using hj
 subst hj;refine⟨⟨_,rfl,by kernel_rfl,fun K hK=>?_⟩⟩;go_simp;replace BW:=BW.alloc BW.size (.map #[] 0);replace bW:=bW.alloc (.map #[] 0);replace F:=mapsNew F;refine hK _ _ ⟨⟨fun _=>bW,trivial⟩,?_⟩;clear hK K;obtain⟨m2,hm⟩:=gen_of W.heap.size;rw[hm]at F ⊢;obtain⟨W',hW'⟩:=gen_of (W.alloc (.map #[] 0));rw[hW']at BW bW F ⊢;clear hm hW' W;obtain⟨W,rfl⟩:∃X,X=W':=⟨_,rfl⟩;try simp only[PT]
 refine buildQ 5 #[(0,.pointer (some ⟨bk,0,none⟩)),(1,.agg cv),(3,.map (some m2)),(4,.map (some m3)),(5,.map (some m4))] _ rfl rfl rfl (hbd bk m2 m3 m4) ?_;try simp only[PT]
 refine sQ 6 fun K hK=>?_;simp only[GO];go_simp;refine hK _ _ ⟨⟨fun _=>bW.alloc _,trivial⟩,?_⟩;clear hK K;try simp only[PT]
 refine tQ [7] ?_;refine dQ (hKQ.out _ _ ?_);clear hKQ KQ;have hR:=hid (show BrI w c W.heap.size (W.alloc (.cells (brkC c bk m2 m3 m4) 217))from⟨BW.alloc BW.size _,bW.alloc _,_,_,_,_,Blk.new _ _ _,mapsOld F _ _ (by simp),mapsOld F _ _ (by simp)⟩);go_wp2;go_meet
 case rel=>exact⟨_,rfl,hR⟩):P:=h
theorem bk_BrB_c245{P:Prop}(h:P:=by
 refine stepM [2,4] (fun j hj=>?_);have hj:j=2\/j=4:=by simpa using hj
 rcases hj with rfl | rfl
 ·refine⟨⟨_,rfl,by kernel_rfl,fun K hK=>?_⟩⟩;go_simp;replace BW:=BW.alloc BW.size (.map #[] 0);replace bW:=bW.alloc (.map #[] 0);replace F:=mapsNew F;refine hK _ _ ⟨⟨fun _=>bW,trivial⟩,?_⟩;clear hK K;obtain⟨m2,hm⟩:=gen_of W.heap.size;rw[hm]at F ⊢;obtain⟨W',hW'⟩:=gen_of (W.alloc (.map #[] 0));rw[hW']at BW bW F ⊢;clear hm hW' W;obtain⟨W,rfl⟩:∃X,X=W':=⟨_,rfl⟩;try simp only[PT]
  exact bk_BrB_c41
 skip;refine⟨⟨_,rfl,by kernel_rfl,fun K hK=>?_⟩⟩;go_simp;replace BW:=BW.alloc BW.size (.map #[] 0);replace bW:=bW.alloc (.map #[] 0);replace F:=mapsNew F;refine hK _ _ ⟨⟨fun _=>bW,trivial⟩,?_⟩;clear hK K;obtain⟨m4,hm⟩:=gen_of W.heap.size;rw[hm]at F ⊢;obtain⟨W',hW'⟩:=gen_of (W.alloc (.map #[] 0));rw[hW']at BW bW F ⊢;clear hm hW' W;obtain⟨W,rfl⟩:∃X,X=W':=⟨_,rfl⟩;try simp only[PT]
 exact bk_BrB_c24):P:=h
theorem bk_BrB_c236{P:Prop}(h:P:=by
 refine stepM [2,3] (fun j hj=>?_);have hj:j=2\/j=3:=by simpa using hj
 rcases hj with rfl | rfl
 ·refine⟨⟨_,rfl,by kernel_rfl,fun K hK=>?_⟩⟩;go_simp;replace BW:=BW.alloc BW.size (.map #[] 0);replace bW:=bW.alloc (.map #[] 0);replace F:=mapsNew F;refine hK _ _ ⟨⟨fun _=>bW,trivial⟩,?_⟩;clear hK K;obtain⟨m2,hm⟩:=gen_of W.heap.size;rw[hm]at F ⊢;obtain⟨W',hW'⟩:=gen_of (W.alloc (.map #[] 0));rw[hW']at BW bW F ⊢;clear hm hW' W;obtain⟨W,rfl⟩:∃X,X=W':=⟨_,rfl⟩;try simp only[PT]
  exact bk_BrB_c32
 skip;refine⟨⟨_,rfl,by kernel_rfl,fun K hK=>?_⟩⟩;go_simp;replace BW:=BW.alloc BW.size (.map #[] 0);replace bW:=bW.alloc (.map #[] 0);replace F:=mapsNew F;refine hK _ _ ⟨⟨fun _=>bW,trivial⟩,?_⟩;clear hK K;obtain⟨m3,hm⟩:=gen_of W.heap.size;rw[hm]at F ⊢;obtain⟨W',hW'⟩:=gen_of (W.alloc (.map #[] 0));rw[hW']at BW bW F ⊢;clear hm hW' W;obtain⟨W,rfl⟩:∃X,X=W':=⟨_,rfl⟩;try simp only[PT]
 exact bk_BrB_c24):P:=h
theorem bk_BrB_c2347{P:Prop}(h:P:=by
 refine stepM [2,3,4] (fun j hj=>?_);have hj:j=2\/j=3\/j=4:=by simpa using hj
 rcases hj with rfl | rfl | rfl
 ·refine⟨⟨_,rfl,by kernel_rfl,fun K hK=>?_⟩⟩;go_simp;replace BW:=BW.alloc BW.size (.map #[] 0);replace bW:=bW.alloc (.map #[] 0);replace F:=mapsNew F;refine hK _ _ ⟨⟨fun _=>bW,trivial⟩,?_⟩;clear hK K;obtain⟨m2,hm⟩:=gen_of W.heap.size;rw[hm]at F ⊢;obtain⟨W',hW'⟩:=gen_of (W.alloc (.map #[] 0));rw[hW']at BW bW F ⊢;clear hm hW' W;obtain⟨W,rfl⟩:∃X,X=W':=⟨_,rfl⟩;try simp only[PT]
  exact bk_BrB_c343
 ·refine⟨⟨_,rfl,by kernel_rfl,fun K hK=>?_⟩⟩;go_simp;replace BW:=BW.alloc BW.size (.map #[] 0);replace bW:=bW.alloc (.map #[] 0);replace F:=mapsNew F;refine hK _ _ ⟨⟨fun _=>bW,trivial⟩,?_⟩;clear hK K;obtain⟨m3,hm⟩:=gen_of W.heap.size;rw[hm]at F ⊢;obtain⟨W',hW'⟩:=gen_of (W.alloc (.map #[] 0));rw[hW']at BW bW F ⊢;clear hm hW' W;obtain⟨W,rfl⟩:∃X,X=W':=⟨_,rfl⟩;try simp only[PT]
  exact bk_BrB_c245
 skip;refine⟨⟨_,rfl,by kernel_rfl,fun K hK=>?_⟩⟩;go_simp;replace BW:=BW.alloc BW.size (.map #[] 0);replace bW:=bW.alloc (.map #[] 0);replace F:=mapsNew F;refine hK _ _ ⟨⟨fun _=>bW,trivial⟩,?_⟩;clear hK K;obtain⟨m4,hm⟩:=gen_of W.heap.size;rw[hm]at F ⊢;obtain⟨W',hW'⟩:=gen_of (W.alloc (.map #[] 0));rw[hW']at BW bW F ⊢;clear hm hW' W;obtain⟨W,rfl⟩:∃X,X=W':=⟨_,rfl⟩;try simp only[PT]
 exact bk_BrB_c236):P:=h
theorem bk_BrB_c08{P:Prop}(h:P:=by
 refine stepM [0] (fun j hj=>?_);have hj:j=0:=by simpa using hj
 subst hj;refine⟨⟨_,rfl,by kernel_rfl,fun K hK=>?_⟩⟩;go_simp;refine(match_New W).mono ?_;rintro e W' ⟨bk,rfl,hb⟩;replace BW:=BW.trans (hb.mono BW.size);replace bW:=bW.below hb;replace F:=mapsBelow F hb;refine hK _ _ ⟨⟨fun _=>bW,trivial⟩,?_⟩;clear hK K hb W;obtain⟨W,rfl⟩:∃X,X=W':=⟨_,rfl⟩;try simp only[PT]
 refine buildQ 5 #[(0,.pointer (some ⟨bk,0,none⟩)),(1,.agg cv),(3,.map (some m2)),(4,.map (some m3)),(5,.map (some m4))] _ rfl rfl rfl (hbd bk m2 m3 m4) ?_;try simp only[PT]
 refine sQ 6 fun K hK=>?_;simp only[GO];go_simp;refine hK _ _ ⟨⟨fun _=>bW.alloc _,trivial⟩,?_⟩;clear hK K;try simp only[PT]
 refine tQ [7] ?_;refine dQ (hKQ.out _ _ ?_);clear hKQ KQ;have hR:=hid (show BrI w c W.heap.size (W.alloc (.cells (brkC c bk m2 m3 m4) 217))from⟨BW.alloc BW.size _,bW.alloc _,_,_,_,_,Blk.new _ _ _,mapsOld F _ _ (by simp),mapsOld F _ _ (by simp)⟩);go_wp2;go_meet
 case rel=>exact⟨_,rfl,hR⟩):P:=h
theorem bk_BrB_c049{P:Prop}(h:P:=by
 refine stepM [0,4] (fun j hj=>?_);have hj:j=0\/j=4:=by simpa using hj
 rcases hj with rfl | rfl
 ·refine⟨⟨_,rfl,by kernel_rfl,fun K hK=>?_⟩⟩;go_simp;refine(match_New W).mono ?_;rintro e W' ⟨bk,rfl,hb⟩;replace BW:=BW.trans (hb.mono BW.size);replace bW:=bW.below hb;replace F:=mapsBelow F hb;refine hK _ _ ⟨⟨fun _=>bW,trivial⟩,?_⟩;clear hK K hb W;obtain⟨W,rfl⟩:∃X,X=W':=⟨_,rfl⟩;try simp only[PT]
  exact bk_BrB_c41
 skip;refine⟨⟨_,rfl,by kernel_rfl,fun K hK=>?_⟩⟩;go_simp;replace BW:=BW.alloc BW.size (.map #[] 0);replace bW:=bW.alloc (.map #[] 0);replace F:=mapsNew F;refine hK _ _ ⟨⟨fun _=>bW,trivial⟩,?_⟩;clear hK K;obtain⟨m4,hm⟩:=gen_of W.heap.size;rw[hm]at F ⊢;obtain⟨W',hW'⟩:=gen_of (W.alloc (.map #[] 0));rw[hW']at BW bW F ⊢;clear hm hW' W;obtain⟨W,rfl⟩:∃X,X=W':=⟨_,rfl⟩;try simp only[PT]
 exact bk_BrB_c08):P:=h
theorem bk_BrB_c0310{P:Prop}(h:P:=by
 refine stepM [0,3] (fun j hj=>?_);have hj:j=0\/j=3:=by simpa using hj
 rcases hj with rfl | rfl
 ·refine⟨⟨_,rfl,by kernel_rfl,fun K hK=>?_⟩⟩;go_simp;refine(match_New W).mono ?_;rintro e W' ⟨bk,rfl,hb⟩;replace BW:=BW.trans (hb.mono BW.size);replace bW:=bW.below hb;replace F:=mapsBelow F hb;refine hK _ _ ⟨⟨fun _=>bW,trivial⟩,?_⟩;clear hK K hb W;obtain⟨W,rfl⟩:∃X,X=W':=⟨_,rfl⟩;try simp only[PT]
  exact bk_BrB_c32
 skip;refine⟨⟨_,rfl,by kernel_rfl,fun K hK=>?_⟩⟩;go_simp;replace BW:=BW.alloc BW.size (.map #[] 0);replace bW:=bW.alloc (.map #[] 0);replace F:=mapsNew F;refine hK _ _ ⟨⟨fun _=>bW,trivial⟩,?_⟩;clear hK K;obtain⟨m3,hm⟩:=gen_of W.heap.size;rw[hm]at F ⊢;obtain⟨W',hW'⟩:=gen_of (W.alloc (.map #[] 0));rw[hW']at BW bW F ⊢;clear hm hW' W;obtain⟨W,rfl⟩:∃X,X=W':=⟨_,rfl⟩;try simp only[PT]
 exact bk_BrB_c08):P:=h
theorem bk_BrB_c03411{P:Prop}(h:P:=by
 refine stepM [0,3,4] (fun j hj=>?_);have hj:j=0\/j=3\/j=4:=by simpa using hj
 rcases hj with rfl | rfl | rfl
 ·refine⟨⟨_,rfl,by kernel_rfl,fun K hK=>?_⟩⟩;go_simp;refine(match_New W).mono ?_;rintro e W' ⟨bk,rfl,hb⟩;replace BW:=BW.trans (hb.mono BW.size);replace bW:=bW.below hb;replace F:=mapsBelow F hb;refine hK _ _ ⟨⟨fun _=>bW,trivial⟩,?_⟩;clear hK K hb W;obtain⟨W,rfl⟩:∃X,X=W':=⟨_,rfl⟩;try simp only[PT]
  exact bk_BrB_c343
 ·refine⟨⟨_,rfl,by kernel_rfl,fun K hK=>?_⟩⟩;go_simp;replace BW:=BW.alloc BW.size (.map #[] 0);replace bW:=bW.alloc (.map #[] 0);replace F:=mapsNew F;refine hK _ _ ⟨⟨fun _=>bW,trivial⟩,?_⟩;clear hK K;obtain⟨m3,hm⟩:=gen_of W.heap.size;rw[hm]at F ⊢;obtain⟨W',hW'⟩:=gen_of (W.alloc (.map #[] 0));rw[hW']at BW bW F ⊢;clear hm hW' W;obtain⟨W,rfl⟩:∃X,X=W':=⟨_,rfl⟩;try simp only[PT]
  exact bk_BrB_c049
 skip;refine⟨⟨_,rfl,by kernel_rfl,fun K hK=>?_⟩⟩;go_simp;replace BW:=BW.alloc BW.size (.map #[] 0);replace bW:=bW.alloc (.map #[] 0);replace F:=mapsNew F;refine hK _ _ ⟨⟨fun _=>bW,trivial⟩,?_⟩;clear hK K;obtain⟨m4,hm⟩:=gen_of W.heap.size;rw[hm]at F ⊢;obtain⟨W',hW'⟩:=gen_of (W.alloc (.map #[] 0));rw[hW']at BW bW F ⊢;clear hm hW' W;obtain⟨W,rfl⟩:∃X,X=W':=⟨_,rfl⟩;try simp only[PT]
 exact bk_BrB_c0310):P:=h
theorem bk_BrB_c0212{P:Prop}(h:P:=by
 refine stepM [0,2] (fun j hj=>?_);have hj:j=0\/j=2:=by simpa using hj
 rcases hj with rfl | rfl
 ·refine⟨⟨_,rfl,by kernel_rfl,fun K hK=>?_⟩⟩;go_simp;refine(match_New W).mono ?_;rintro e W' ⟨bk,rfl,hb⟩;replace BW:=BW.trans (hb.mono BW.size);replace bW:=bW.below hb;replace F:=mapsBelow F hb;refine hK _ _ ⟨⟨fun _=>bW,trivial⟩,?_⟩;clear hK K hb W;obtain⟨W,rfl⟩:∃X,X=W':=⟨_,rfl⟩;try simp only[PT]
  exact bk_BrB_c24
 skip;refine⟨⟨_,rfl,by kernel_rfl,fun K hK=>?_⟩⟩;go_simp;replace BW:=BW.alloc BW.size (.map #[] 0);replace bW:=bW.alloc (.map #[] 0);replace F:=mapsNew F;refine hK _ _ ⟨⟨fun _=>bW,trivial⟩,?_⟩;clear hK K;obtain⟨m2,hm⟩:=gen_of W.heap.size;rw[hm]at F ⊢;obtain⟨W',hW'⟩:=gen_of (W.alloc (.map #[] 0));rw[hW']at BW bW F ⊢;clear hm hW' W;obtain⟨W,rfl⟩:∃X,X=W':=⟨_,rfl⟩;try simp only[PT]
 exact bk_BrB_c08):P:=h
theorem bk_BrB_c02413{P:Prop}(h:P:=by
 refine stepM [0,2,4] (fun j hj=>?_);have hj:j=0\/j=2\/j=4:=by simpa using hj
 rcases hj with rfl | rfl | rfl
 ·refine⟨⟨_,rfl,by kernel_rfl,fun K hK=>?_⟩⟩;go_simp;refine(match_New W).mono ?_;rintro e W' ⟨bk,rfl,hb⟩;replace BW:=BW.trans (hb.mono BW.size);replace bW:=bW.below hb;replace F:=mapsBelow F hb;refine hK _ _ ⟨⟨fun _=>bW,trivial⟩,?_⟩;clear hK K hb W;obtain⟨W,rfl⟩:∃X,X=W':=⟨_,rfl⟩;try simp only[PT]
  exact bk_BrB_c245
 ·refine⟨⟨_,rfl,by kernel_rfl,fun K hK=>?_⟩⟩;go_simp;replace BW:=BW.alloc BW.size (.map #[] 0);replace bW:=bW.alloc (.map #[] 0);replace F:=mapsNew F;refine hK _ _ ⟨⟨fun _=>bW,trivial⟩,?_⟩;clear hK K;obtain⟨m2,hm⟩:=gen_of W.heap.size;rw[hm]at F ⊢;obtain⟨W',hW'⟩:=gen_of (W.alloc (.map #[] 0));rw[hW']at BW bW F ⊢;clear hm hW' W;obtain⟨W,rfl⟩:∃X,X=W':=⟨_,rfl⟩;try simp only[PT]
  exact bk_BrB_c049
 skip;refine⟨⟨_,rfl,by kernel_rfl,fun K hK=>?_⟩⟩;go_simp;replace BW:=BW.alloc BW.size (.map #[] 0);replace bW:=bW.alloc (.map #[] 0);replace F:=mapsNew F;refine hK _ _ ⟨⟨fun _=>bW,trivial⟩,?_⟩;clear hK K;obtain⟨m4,hm⟩:=gen_of W.heap.size;rw[hm]at F ⊢;obtain⟨W',hW'⟩:=gen_of (W.alloc (.map #[] 0));rw[hW']at BW bW F ⊢;clear hm hW' W;obtain⟨W,rfl⟩:∃X,X=W':=⟨_,rfl⟩;try simp only[PT]
 exact bk_BrB_c0212):P:=h
theorem bk_BrB_c02314{P:Prop}(h:P:=by
 refine stepM [0,2,3] (fun j hj=>?_);have hj:j=0\/j=2\/j=3:=by simpa using hj
 rcases hj with rfl | rfl | rfl
 ·refine⟨⟨_,rfl,by kernel_rfl,fun K hK=>?_⟩⟩;go_simp;refine(match_New W).mono ?_;rintro e W' ⟨bk,rfl,hb⟩;replace BW:=BW.trans (hb.mono BW.size);replace bW:=bW.below hb;replace F:=mapsBelow F hb;refine hK _ _ ⟨⟨fun _=>bW,trivial⟩,?_⟩;clear hK K hb W;obtain⟨W,rfl⟩:∃X,X=W':=⟨_,rfl⟩;try simp only[PT]
  exact bk_BrB_c236
 ·refine⟨⟨_,rfl,by kernel_rfl,fun K hK=>?_⟩⟩;go_simp;replace BW:=BW.alloc BW.size (.map #[] 0);replace bW:=bW.alloc (.map #[] 0);replace F:=mapsNew F;refine hK _ _ ⟨⟨fun _=>bW,trivial⟩,?_⟩;clear hK K;obtain⟨m2,hm⟩:=gen_of W.heap.size;rw[hm]at F ⊢;obtain⟨W',hW'⟩:=gen_of (W.alloc (.map #[] 0));rw[hW']at BW bW F ⊢;clear hm hW' W;obtain⟨W,rfl⟩:∃X,X=W':=⟨_,rfl⟩;try simp only[PT]
  exact bk_BrB_c0310
 skip;refine⟨⟨_,rfl,by kernel_rfl,fun K hK=>?_⟩⟩;go_simp;replace BW:=BW.alloc BW.size (.map #[] 0);replace bW:=bW.alloc (.map #[] 0);replace F:=mapsNew F;refine hK _ _ ⟨⟨fun _=>bW,trivial⟩,?_⟩;clear hK K;obtain⟨m3,hm⟩:=gen_of W.heap.size;rw[hm]at F ⊢;obtain⟨W',hW'⟩:=gen_of (W.alloc (.map #[] 0));rw[hW']at BW bW F ⊢;clear hm hW' W;obtain⟨W,rfl⟩:∃X,X=W':=⟨_,rfl⟩;try simp only[PT]
 exact bk_BrB_c0212):P:=h
attribute [local go_sem] Oper.semAt_some
theorem heap_lt{w:World}{m:Nat}{o:Obj}(h:w.heap[m]?=some o):m<w.heap.size:=(Array.getElem?_eq_some_iff.1 h).1
theorem heap_old(w:World)(o:Obj)(m:Nat)(h:m<w.heap.size):(w.alloc o).heap[m]?=w.heap[m]?:=((Below.refl w.heap.size w).alloc nat_le_rfl o).block m h
theorem mapsOld{W:World}{ms:List Nat}(F:∀m∈ms,W.heap[m]?=some (.map #[] 0))(o:Obj):∀m∈ms,(W.alloc o).heap[m]?=some (.map #[] 0):=fun m hm=>(heap_old W o m (heap_lt (F m hm))).trans (F m hm)
theorem mapsBelow{W W':World}{ms:List Nat}(F:∀m∈ms,W.heap[m]?=some (.map #[] 0))(hb:Below W.heap.size W W'):∀m∈ms,W'.heap[m]?=some (.map #[] 0):=fun m hm=>(hb.block m (heap_lt (F m hm))).trans (F m hm)
theorem mapsNew{W:World}{ms:List Nat}(F:∀m∈ms,W.heap[m]?=some (.map #[] 0)):∀m∈W.heap.size::ms,(W.alloc (.map #[] 0)).heap[m]?=some (.map #[] 0):=fun m hm=>by
 rcases List.mem_cons.1 hm with rfl | hm
 ·exact World.alloc_heap_new W _
 exact mapsOld F _ m hm
def brkC(c:CfV)(bk m2 m3 m4:Nat):Array Value:=#[.pointer (some ⟨bk,0,none⟩),.int .i64 c.window,.int .i64 c.room,.int .i64 c.inbox,.int .i64 c.subs,.int .i64 c.sessions,.int .i64 c.retained,.string ⟨c.secret.toArray⟩,.int .i64 0,.map (some m2),.map (some m3),.map (some m4),.int .i64 0,.slice none 0 0,.slice none 0 0]
theorem build_brk(c:CfV)(bk m2 m3 m4:Nat)(W:World):(Instr.build 217 #[(0,.pointer (some ⟨bk,0,none⟩)),(1,.agg c.cl.toArray),(3,.map (some m2)),(4,.map (some m3)),(5,.map (some m4))]).run prog W=.ok (.agg (brkC c bk m2 m3 m4)) W:=by kernel_rfl
structure BrI (w:World)(c:CfV)(p:Nat)(wx:World):Prop where
 below:Below w.heap.size w wx
 box:Blk wx w.heap.size c.cl.toArray 27
 out:∃bk m2 m3 m4,Blk wx p (brkC c bk m2 m3 m4) 217/\wx.heap[m3]?=some (.map #[] 0)/\wx.heap[m4]?=some (.map #[] 0)
theorem ses_New_bad(win room most subs:Int)(client:List UInt8)(w:World)(hT:TzAt w)(hbad:¬((1<=win/\win<=100)/\(1<=room/\room<=1000)/\(1<=most/\most<=1000)/\(1<=subs/\subs<=100))):
  Calls prog 167 #[.agg #[.int .i64 win,.int .i64 room,.int .i64 most,.int .i64 subs],.string ⟨client.toArray⟩] w (NoP w):=by
 have hB:Below w.heap.size w ((w.alloc (.cells #[.int .i64 win,.int .i64 room,.int .i64 most,.int .i64 subs] 25)).alloc (.cells (sessV client 0 1).vals 136)):=by exact belw
 have hRow:RowsAt ((w.alloc (.cells #[.int .i64 win,.int .i64 room,.int .i64 most,.int .i64 subs] 25)).alloc (.cells (sessV client 0 1).vals 136)) w.heap.size (.slice (some ⟨w.heap.size+1,0,none⟩) 1 1) [sessV client 0 1]:=
  ⟨by simp[RowV.cllen],.inr ⟨w.heap.size+1,1,(sessV client 0 1).vals,rfl,by omega,Blk.new_at _ _ _ _ (by simp),by simp,by decide,by simp[RowV.vals],by simp[RowV.cl,RowV.vals]⟩⟩
 have CO:=hid (ses_Of_bad win room most subs client w.heap.size (w.heap.size+1) _ (hT.below hB) hRow hbad);replace hB:=hid hB;clear hRow hbad;unfold sessV RowV.vals at*
 go_enter func167,ntmps167;go_wp2_with (go_at_call 170;refine CO.mono ?_;rintro e w1 ⟨x,rfl,hb1⟩)
 go_returns
 exact⟨x,rfl,hB.trans (hb1.mono hB.size)⟩
theorem brk_Of(c:CfV)(w:World)(hT:TzAt w):
  Calls prog 99 #[.agg c.cl.toArray,.slice none 0 0] w fun e w'=>∃x z,e=.returned (.tuple #[x,.int .i64 z])/\(z=0↔cfOK c)/\Below w.heap.size w w':=by
 have hmm:= @run_makeMap prog;obtain⟨cv,hcv⟩:=gen_of c.cl.toArray;have bX:Blk (w.alloc (.cells c.cl.toArray 27)) w.heap.size c.cl.toArray 27:=Blk.new _ _ _;have BX:Below w.heap.size w (w.alloc (.cells c.cl.toArray 27)):=bel_refl.alloc nat_le_rfl _;have hbd:Hid (∀bk m2 m3 m4 W,(Instr.build 217 #[(0,.pointer (some ⟨bk,0,none⟩)),(1,.agg cv),(3,.map (some m2)),(4,.map (some m3)),(5,.map (some m4))]).run prog W=.ok (.agg (brkC c bk m2 m3 m4)) W):=hid fun bk m2 m3 m4 W=>by rw[<-hcv];exact build_brk c bk m2 m3 m4 W
 rw[hcv];go_enter func99,ntmps99;go_upto_region 1 with fail
 go_cut [6]from 20 (fun s6 wx=>∃p,s6=.pointer (some ⟨p,0,none⟩)/\Hid (BrI w c p wx))
 case first=>
  --BEG
  obtain⟨W0,hW0⟩:=gen_of (w.alloc (.cells c.cl.toArray 27));rw[hW0]at bX BX;rw[hcv]at hW0;rw[hW0];clear hW0;obtain⟨W,hW⟩:=gen_of W0.drew;have BW:Below w.heap.size w W:=by rw[<-hW];exact BX.drew
  have bW:Blk W w.heap.size c.cl.toArray 27:=by rw[<-hW];exact bX
  refine regionQ [(1000,fun w'=>Blk w' w.heap.size c.cl.toArray 27)] (by kernel_rfl) ⟨bX,trivial⟩ fun KQ hKQ=>?_;refine lR 1 0 rfl rfl rfl rfl (fun w' hf=>run_load_blk hf 27 underlying27 rfl (by kernel_rfl)) ?_;try simp only[PT]
  rw[hW];clear hW BX bX;have F:∀m∈([]:List Nat),W.heap[m]?=some (.map #[] 0):=by simp
  refine stepM [0,2,3,4] (fun j hj=>?_);have hj:j=0\/j=2\/j=3\/j=4:=by simpa using hj
  rcases hj with rfl | rfl | rfl | rfl
  ·refine⟨⟨_,rfl,by kernel_rfl,fun K hK=>?_⟩⟩;go_simp;refine(match_New W).mono ?_;rintro e W' ⟨bk,rfl,hb⟩;replace BW:=BW.trans (hb.mono BW.size);replace bW:=bW.below hb;replace F:=mapsBelow F hb;refine hK _ _ ⟨⟨fun _=>bW,trivial⟩,?_⟩;clear hK K hb W;obtain⟨W,rfl⟩:∃X,X=W':=⟨_,rfl⟩;try simp only[PT]
   exact bk_BrB_c2347
  ·refine⟨⟨_,rfl,by kernel_rfl,fun K hK=>?_⟩⟩;go_simp;replace BW:=BW.alloc BW.size (.map #[] 0);replace bW:=bW.alloc (.map #[] 0);replace F:=mapsNew F;refine hK _ _ ⟨⟨fun _=>bW,trivial⟩,?_⟩;clear hK K;obtain⟨m2,hm⟩:=gen_of W.heap.size;rw[hm]at F ⊢;obtain⟨W',hW'⟩:=gen_of (W.alloc (.map #[] 0));rw[hW']at BW bW F ⊢;clear hm hW' W;obtain⟨W,rfl⟩:∃X,X=W':=⟨_,rfl⟩;try simp only[PT]
   exact bk_BrB_c03411
  ·refine⟨⟨_,rfl,by kernel_rfl,fun K hK=>?_⟩⟩;go_simp;replace BW:=BW.alloc BW.size (.map #[] 0);replace bW:=bW.alloc (.map #[] 0);replace F:=mapsNew F;refine hK _ _ ⟨⟨fun _=>bW,trivial⟩,?_⟩;clear hK K;obtain⟨m3,hm⟩:=gen_of W.heap.size;rw[hm]at F ⊢;obtain⟨W',hW'⟩:=gen_of (W.alloc (.map #[] 0));rw[hW']at BW bW F ⊢;clear hm hW' W;obtain⟨W,rfl⟩:∃X,X=W':=⟨_,rfl⟩;try simp only[PT]
   exact bk_BrB_c02413
  ·refine⟨⟨_,rfl,by kernel_rfl,fun K hK=>?_⟩⟩;go_simp;replace BW:=BW.alloc BW.size (.map #[] 0);replace bW:=bW.alloc (.map #[] 0);replace F:=mapsNew F;refine hK _ _ ⟨⟨fun _=>bW,trivial⟩,?_⟩;clear hK K;obtain⟨m4,hm⟩:=gen_of W.heap.size;rw[hm]at F ⊢;obtain⟨W',hW'⟩:=gen_of (W.alloc (.map #[] 0));rw[hW']at BW bW F ⊢;clear hm hW' W;obtain⟨W,rfl⟩:∃X,X=W':=⟨_,rfl⟩;try simp only[PT]
   exact bk_BrB_c02314
  --END
 case rest=>
  obtain⟨p,rfl,hI⟩:=hcut;obtain⟨bk,m2,m3,m4,hP,h3,h4⟩:=hI.out.out;have hm:=hI.out.box.mid [] [.int .i64 c.window,.int .i64 c.room,.int .i64 c.inbox,.int .i64 c.subs] [.int .i64 c.sessions,.int .i64 c.retained,.string ⟨c.secret.toArray⟩] rfl;by_cases hset:(1<=c.window/\c.window<=100)/\(1<=c.room/\c.room<=1000)/\(1<=c.inbox/\c.inbox<=1000)/\(1<=c.subs/\c.subs<=100)
  case neg=>
   have CS:=hid (ses_New_bad c.window c.room c.inbox c.subs [120] wc (hT.below hI.out.below) hset);have HBI:=hid hI.out.below;replace hset:=hid hset;clear hI hP h3 h4;go_wp2_with (refine wLm 25 rfl rfl hm underlying25 ?_);refine CS.mono ?_;rintro e w1 ⟨x,rfl,hb1⟩;have HB1:=hid (HBI.trans (hb1.mono HBI.size));clear hb1 hm;go_wp2_with fail
   go_returns
   exact⟨_,2,rfl,⟨fun h=>(by cases h),fun h=>absurd ⟨h.1,h.2.1,h.2.2.1,h.2.2.2.1⟩ hset.out⟩,HB1.out⟩
  obtain⟨hc1,hc2,hc3,hc4⟩:=hset;have CS:=hid (ses_New c.window c.room c.inbox c.subs [120] wc (hT.below hI.out.below) hc1 hc2 hc3 hc4 (by decide) (by kernel_rfl));go_wp2_with (refine wLm 25 rfl rfl hm underlying25 ?_)
  refine CS.mono ?_;rintro e w1 ⟨S,rfl, -,hst⟩;have hb1:Below wc.heap.size wc w1:=hst.wrote.below nat_le_rfl (fun x hx=>by cases hx);have HB1:=hid (hI.out.below.trans (hb1.mono hI.out.below.size));have HP1:=hid (hP.below hb1);have H3:=hid ((hb1.block m3 (heap_lt h3)).trans h3);have H4:=hid ((hb1.block m4 (heap_lt h4)).trans h4);have hbx:=hI.out.box.below hb1;have k4:w1.cell? ⟨w.heap.size,4,none⟩=some (.int .i64 c.sessions):=hbx.cell 4;have k5:w1.cell? ⟨w.heap.size,5,none⟩=some (.int .i64 c.retained):=hbx.cell 5;have k6:w1.cell? ⟨w.heap.size,6,none⟩=some (.string ⟨c.secret.toArray⟩):=hbx.cell 6;have HX:=hid hbx;have CW:=hid brk_within;have hcf:Hid (1<=c.sessions/\c.sessions<=40->0<=c.retained/\c.retained<=1000->c.secret.length<=200->cfOK c):=hid fun a b d=>⟨hc1,hc2,hc3,hc4,a,b,d⟩;clear hm hP h3 h4 hst hb1 hbx CS hc1 hc2 hc3 hc4;by_cases hs1:1<=c.sessions
  case neg=>
   clear hcf;go_wp2_with (go_at_call 168;refine(CW _ _ _ _).mono ?_;rintro e w' ⟨rfl,rfl⟩)
   go_returns
   exact⟨_,2,rfl,⟨fun h=>(by cases h),fun h=>(by have h9:=h.2.2.2.2.1.1;omega)⟩,HB1.out⟩
  by_cases hs2:c.sessions<=40
  case neg=>
   clear hcf;go_wp2_with (go_at_call 168;refine(CW _ _ _ _).mono ?_;rintro e w' ⟨rfl,rfl⟩)
   go_returns
   exact⟨_,2,rfl,⟨fun h=>(by cases h),fun h=>(by have h9:=h.2.2.2.2.1.2;omega)⟩,HB1.out⟩
  by_cases hr1:0<=c.retained
  case neg=>
   clear hcf;go_wp2_with (go_at_call 168;refine(CW _ _ _ _).mono ?_;rintro e w' ⟨rfl,rfl⟩)
   go_returns
   exact⟨_,2,rfl,⟨fun h=>(by cases h),fun h=>(by have h9:=h.2.2.2.2.2.1.1;omega)⟩,HB1.out⟩
  by_cases hr2:c.retained<=1000
  case neg=>
   clear hcf;go_wp2_with (go_at_call 168;refine(CW _ _ _ _).mono ?_;rintro e w' ⟨rfl,rfl⟩)
   go_returns
   exact⟨_,2,rfl,⟨fun h=>(by cases h),fun h=>(by have h9:=h.2.2.2.2.2.1.2;omega)⟩,HB1.out⟩
  by_cases hc7:c.secret.length<=200
  case neg=>
   have d7:decide (200<(c.secret.length:Int))=true:=decide_eq_true (by omega);clear hcf;go_wp2_with (go_at_call 168;refine(CW _ _ _ _).mono ?_;rintro e w' ⟨rfl,rfl⟩)
   go_returns
   exact⟨_,2,rfl,⟨fun h=>(by cases h),fun h=>(by have h9:=h.2.2.2.2.2.2;omega)⟩,HB1.out⟩
  have hcf:=hid (hcf ⟨hs1,hs2⟩ ⟨hr1,hr2⟩ hc7);go_wp2_with (go_at_call 168;refine(CW _ _ _ _).mono ?_;rintro e w' ⟨rfl,rfl⟩)
  obtain⟨m5,hm5⟩:=gen_of w1.heap.size;have h5:=World.alloc_heap_new w1 (.map #[] 0);have B2:=HB1.alloc HB1.size (.map #[] 0);have P2:=HP1.alloc (.map #[] 0);have X2:=HX.alloc (.map #[] 0);have h3:=(heap_old w1 (.map #[] 0) m3 (heap_lt H3.out)).trans H3.out;have h4:=(heap_old w1 (.map #[] 0) m4 (heap_lt H4.out)).trans H4.out;rw[hm5]at h5;rw[hm5];obtain⟨w2,hw2⟩:=gen_of (w1.alloc (.map #[] 0));rw[hw2]at h5 B2 P2 X2 h3 h4 ⊢;clear hw2 hm5 k4 k5 k6 HX HP1 H3 H4;replace B2:=hid B2;replace P2:=hid P2;replace X2:=hid X2;replace h3:=hid h3;replace h4:=hid h4;go_loopw [56] (fun i wr=>i=.int .i64 0/\w2=wr) (fun _ _=>0)
  case atStart=>exact⟨rfl,rfl⟩
  case round=>
   obtain⟨rfl,rfl⟩:=hrel;have hrg:=run_range_none (P:=prog) underlying222 h5;obtain⟨r,hr⟩:=gen_of w2.heap.size;have hit:=World.alloc_heap_new w2 (.mapIter (some m5) 0 #[] 0);have h53:=(heap_old w2 (.mapIter (some m5) 0 #[] 0) m5 (heap_lt h5)).trans h5;have B3:=B2.alloc B2.size (.mapIter (some m5) 0 #[] 0);have P3:=P2.alloc (.mapIter (some m5) 0 #[] 0);have X3:=X2.alloc (.mapIter (some m5) 0 #[] 0);have h33:=(heap_old w2 (.mapIter (some m5) 0 #[] 0) m3 (heap_lt h3.out)).trans h3.out;have h43:=(heap_old w2 (.mapIter (some m5) 0 #[] 0) m4 (heap_lt h4.out)).trans h4.out;rw[hr]at hrg hit;obtain⟨w3,hw3⟩:=gen_of (w2.alloc (.mapIter (some m5) 0 #[] 0));rw[hw3]at hrg hit h53 B3 P3 X3 h33 h43;have hnx:=fun ty=>run_next_none (P:=prog) (ty:=ty) hit h53;clear hw3 hr;replace B3:=hid B3;replace P3:=hid P3;replace X3:=hid X3;replace h33:=hid h33;replace h43:=hid h43;clear h3 h4;go_wp2_with fail;go_loopw [14] (fun _ wr=>w3=wr) (fun _ _=>0)
   case atStart=>rfl
   case round=>
    subst hrel;go_wp2_with fail;have d1:decide (c.sessions<0)=false:=decide_eq_false (by omega);have d2:decide (c.retained<0)=false:=decide_eq_false (by omega);refine regionQ [(1000,fun w'=>Blk w' p (brkC c bk m2 m3 m4) 217),(1000,fun w'=>Blk w' w.heap.size c.cl.toArray 27),(1000,fun w'=>w'.heap[m3]?=some (.map #[] 0)),(1000,fun w'=>w'.heap[m4]?=some (.map #[] 0))] (by kernel_rfl) ⟨P3.out,X3.out,h33.out,h43.out,trivial⟩ fun KQ hKQ=>?_;refine tQ [0] ?_;refine nQ 1 ?_;refine tQ [2] ?_;refine lR 3 0 rfl rfl rfl rfl (fun w' hf=>by(have k0:w'.cell? ⟨p,10,none⟩=some (.map (some m3)):=hf.cell 10;go_simp<;>with_reducible rfl)) ?_;simp only[PT];refine lenQ 4 2 rfl rfl rfl rfl (fun w' hf=>run_len_none underlying211 hf _) ?_;try simp only[PT]
    refine tQ [5] ?_;refine lR 6 1 rfl rfl rfl rfl (fun w' hf=>by(have k0:w'.cell? ⟨w.heap.size,4,none⟩=some (.int .i64 c.sessions):=hf.cell 4;go_simp<;>with_reducible rfl)) ?_;simp only[PT];refine tQ [7,8,9] ?_;refine nQ 10 ?_;refine tQ [11] ?_;refine lR 12 0 rfl rfl rfl rfl (fun w' hf=>by(have k0:w'.cell? ⟨p,11,none⟩=some (.map (some m4)):=hf.cell 11;go_simp<;>with_reducible rfl)) ?_;simp only[PT];refine lenQ 13 3 rfl rfl rfl rfl (fun w' hf=>run_len_none underlying212 hf _) ?_;try simp only[PT]
    refine tQ [14] ?_;refine lR 15 1 rfl rfl rfl rfl (fun w' hf=>by(have k0:w'.cell? ⟨w.heap.size,5,none⟩=some (.int .i64 c.retained):=hf.cell 5;go_simp<;>with_reducible rfl)) ?_;simp only[PT];refine tQ [16,17] ?_;refine dQ (hKQ.out _ _ ?_);clear hKQ KQ;go_wp2_with fail
    go_ret2
    exact⟨_,0,rfl,⟨fun _=>hcf.out,fun _=>rfl⟩,B3.drew⟩
theorem brk_New(c:CfV)(w:World)(hT:TzAt w):
  Calls prog 74 #[.agg c.cl.toArray] w fun e w'=>∃x z,e=.returned (.tuple #[x,.int .i64 z])/\(z=0↔cfOK c)/\Below w.heap.size w w':=by
 have bX:Blk (w.alloc (.cells c.cl.toArray 27)) w.heap.size c.cl.toArray 27:=Blk.new _ _ _;have BX:Below w.heap.size w (w.alloc (.cells c.cl.toArray 27)):=bel_refl.alloc nat_le_rfl _;have CO:=hid (brk_Of c _ (hT.below BX));have hs:=BX.size;have BX:=hid BX;go_enter func74,ntmps74;go_wp2_with (refine wL 27 rfl rfl bX underlying27 ?_)
 refine CO.mono ?_;rintro e w1 ⟨x,z,rfl,hz,hb⟩;have HB:=hid (BX.trans (hb.mono hs));replace hz:=hid hz;clear hb;go_wp2_with fail
 go_ret2
 exact⟨x,z,rfl,hz.out,HB.out⟩
end
section
attribute [local go_sem] Oper.semAt_some
structure Puts (F:List Nat)(p:Nat)(l m:List UInt8)(w:World)(e:Ending)(w':World):Prop where
 out:∃F',Stp F F' w w'/\((fits l m=true/\e=.returned (.tuple #[])/\Wr w' F' p (l++m))\/(fits l m=false/\e=.panicked (given 3)))
theorem sc_write12{w:World}{F:List Nat}{p:Nat}{l:List UInt8}(h:Wr w F p l)(hl:l.length<=65536)(t:Tn)(h3:H3)(hp:Hd)(hs:t.bytes.length<=65535):
  Calls prog 60 #[.agg #[.pointer (some ⟨p,0,none⟩)],.agg (t.cells h3 hp).toArray] w (Puts F p l (txtB t.bytes) w):=by
 obtain⟨cs,hcs⟩:=gen_of ((t.cells h3 hp).toArray);obtain⟨W0,hW0⟩:=gen_of ((w.alloc (.cells #[.pointer (some ⟨p,0,none⟩)] 102)).alloc (.cells cs 55));have b1:Blk W0 w.heap.size #[.pointer (some ⟨p,0,none⟩)] 102:=by rw[<-hW0];exact(Blk.new _ _ _).alloc _
 have b2:Blk W0 (w.heap.size+1) cs 55:=by rw[<-hW0];have:=Blk.new (w.alloc (.cells #[.pointer (some ⟨p,0,none⟩)] 102)) cs 55;simpa using this
 have B0:Below w.heap.size w W0:=by rw[<-hW0];exact(bel_refl.alloc nat_le_rfl _).alloc (by simp) _
 have k26:W0.cell? ⟨w.heap.size+1,26,none⟩=some (.string ⟨t.bytes.toArray⟩):=by rw[b2.cell,<-hcs];rfl
 have CT:=hid (sc_wtext (h.below B0) hl t.bytes (by omega));have S0:=hid (Stp.below (F:=F) B0);have hs':=hid hs;rw[hcs];clear hcs b2 hs B0;replace hl:=hid hl;go_enter func60,ntmps60;go_wp2_with (refine wL 102 rfl rfl b1 underlying102 ?_)
 refine CT.mono ?_;rintro e w1 ⟨F1,hs1,⟨⟨_,hf⟩,rfl,hw1⟩ | ⟨hf,rfl⟩⟩
 ·have H:=hid (show Puts F p l (txtB t.bytes) w (.returned (.tuple #[])) w1 from⟨F1,S0.trans hs1,.inl ⟨hf,rfl,hw1⟩⟩);clear hs1 hf hw1;go_wp2_with fail
  go_end0
  exact H.out
 refine⟨rfl,⟨F1,S0.trans hs1,.inr ⟨?_,rfl⟩⟩⟩;cases hx:fits l (txtB t.bytes)with
 | false=>rfl
 | true=>exact absurd ⟨hs'.out,hx⟩ hf
theorem fits_app(l a b:List UInt8):fits l (a++b)=(fits l a&&fits (l++a) b):=by unfold fits;rw[Bool.eq_iff_iff];simp only[decide_eq_true_eq,Bool.and_eq_true,List.length_append];omega
theorem sc_write16{w:World}{F:List Nat}{p:Nat}{l:List UInt8}(h:Wr w F p l)(hl:l.length<=65536)(t:Tn)(h3:H3)(hp:Hd)(ha:0<=t.arm/\t.arm<=2)(hn: -1<=t.n/\t.n<65535):
  Calls prog 64 #[.agg #[.pointer (some ⟨p,0,none⟩)],.agg (t.cells h3 hp).toArray] w (Puts F p l (numB 1 t.arm.toNat++numB 2 (t.n+1).toNat) w):=by
 obtain⟨cs,hcs⟩:=gen_of ((t.cells h3 hp).toArray);obtain⟨W0,hW0⟩:=gen_of ((w.alloc (.cells #[.pointer (some ⟨p,0,none⟩)] 102)).alloc (.cells cs 55));have b1:Blk W0 w.heap.size #[.pointer (some ⟨p,0,none⟩)] 102:=by rw[<-hW0];exact(Blk.new _ _ _).alloc _
 have b2:Blk W0 (w.heap.size+1) cs 55:=by rw[<-hW0];have:=Blk.new (w.alloc (.cells #[.pointer (some ⟨p,0,none⟩)] 102)) cs 55;simpa using this
 have B0:Below w.heap.size w W0:=by rw[<-hW0];exact(bel_refl.alloc nat_le_rfl _).alloc (by simp) _
 have k27:W0.cell? ⟨w.heap.size+1,27,none⟩=some (.int .i64 t.arm):=by rw[b2.cell,<-hcs];rfl
 have hF:=h.lt;have hs0:=B0.size;obtain⟨za,hza⟩:=gen_of t.arm;obtain⟨zn,hzn⟩:=gen_of t.n;have kn:Hid (∀W,Blk W (w.heap.size+1) cs 55->W.cell? ⟨w.heap.size+1,28,none⟩=some (.int .i64 zn)):=hid fun W hb=>by rw[hb.cell,<-hcs,<-hzn];rfl
 rw[hza]at k27 ha ⊢;rw[hzn]at hn ⊢;have C1:=hid (sc_numbers (h:=(h.below B0).alloc (.cells #[.int .i64 za] 3)) hl 1 (by decide) (by decide) [za] (by intro z hz;simp at hz;subst hz;simp;omega) (some ⟨W0.heap.size,0,none⟩) 1 1 (LsAt.one W0 za 3) (fun _ x hx hm=>by cases hx;have:=hF _ hm;simp at this;omega) (by decide));have S0:=hid (Stp.below (F:=F) (B0.alloc hs0 (.cells #[.int .i64 za] 3)));have HB1:=hid (b1.alloc (.cells #[.int .i64 za] 3));have HB2:=hid (b2.alloc (.cells #[.int .i64 za] 3));have hF:=hid hF;rw[hcs];clear hcs hza hzn;have ha:=hid ha;replace hl:=hid hl;go_enter func64,ntmps64;go_wp2_with (refine wL 102 rfl rfl b1 underlying102 ?_)
 refine C1.mono ?_;rintro e w1 ⟨F1,hs1,⟨hf1,rfl,hw1⟩ | ⟨hf1,rfl⟩⟩
 ·have hf1':fits l (numB 1 za.toNat)=true:=by simpa using hf1
  have hw1':Wr w1 F1 p (l++numB 1 za.toNat):=by simpa using hw1
  have hl1:(l++numB 1 za.toNat).length<=65536:=by unfold fits at hf1';rw[decide_eq_true_eq]at hf1';rw[List.length_append];exact hf1'
  have b11:=HB1.keepW hs1.wrote (fun hx=>by have:=hF _ hx;omega);have b21:=HB2.keepW hs1.wrote (fun hx=>by have:=hF _ hx;omega);have k28:=kn w1 b21;have C2:=hid (sc_numbers (h:=hw1'.alloc (.cells #[.int .i64 (zn+1)] 3)) hl1 2 (by decide) (by decide) [zn+1] (by intro z hz;simp at hz;subst hz;simp;omega) (some ⟨w1.heap.size,0,none⟩) 1 1 (LsAt.one w1 (zn+1) 3) (fun _ x hx hm=>by cases hx;have:=hw1'.lt _ hm;simp at this) (by decide));have S1:=hid (S0.trans (hs1.trans (Stp.below (F:=F1) ((Below.refl w1.heap.size w1).alloc nat_le_rfl (.cells #[.int .i64 (zn+1)] 3)))));have HF1:=hid hf1';have hz1: -9223372036854775808<=zn+1:=by omega
  have hz2:zn+1<=9223372036854775807:=by omega
  clear hf1 hw1 hf1' hw1' hl1 b1 b2 b21 hs1 hn k27;go_wp2_with (refine wL 102 rfl rfl b11 underlying102 ?_);refine C2.mono ?_;rintro e w2 ⟨F2,hs2,⟨hf2,rfl,hw2⟩ | ⟨hf2,rfl⟩⟩
  ·have H:=hid (show Puts F p l (numB 1 za.toNat++numB 2 (zn+1).toNat) w (.returned (.tuple #[])) w2 from⟨F2,S1.trans hs2,.inl ⟨by rw[fits_app,HF1.out,Bool.true_and];simpa using hf2,rfl,by simpa using hw2⟩⟩)
   clear hs2 hf2 hw2;go_wp2_with fail
   go_end0
   exact H.out
  refine⟨rfl,⟨F2,S1.trans hs2,.inr ⟨?_,rfl⟩⟩⟩;rw[fits_app,HF1.out,Bool.true_and];simpa using hf2
 refine⟨rfl,⟨F1,S0.trans hs1,.inr ⟨?_,rfl⟩⟩⟩;rw[fits_app];have h7:fits l (numB 1 za.toNat)=false:=by simpa using hf1
 rw[h7,Bool.false_and]
theorem LsAt.wrote{α:Type}{f:α->List Value}{size:Nat}{w w':World}{a:Option Addr}{n cap:Nat}{xs:List α}(h:LsAt f size w a n cap xs){M:List Nat}(hw:Wrote M w w')(hM:xs≠[]->∀x,a=some x->x.block∉M):LsAt f size w' a n cap xs:=
 ⟨h.len,h.le,h.max,fun i x hx=>by obtain⟨g,off,ha,hg,hr⟩:=h.at' i x hx;refine⟨g,off,ha,Nat.lt_of_lt_of_le hg hw.size,fun j v hj=>?_⟩;rw[<-hr j v hj];unfold World.cell?;rw[hw.block g hg (hM (by rintro rfl;simp at hx) _ ha)]⟩
theorem sc_write20{w:World}{F:List Nat}{p:Nat}{l:List UInt8}(h:Wr w F p l)(hl:l.length<=65536)(t:Tn)(h3:H3)(hp:Hd)(hi:LsAt iCl 1 w hp.a hp.n hp.c t.picks)(hif:t.picks≠[]->∀x,hp.a=some x->x.block∉F)(ha:t.picks.length<=255)(hn:∀z∈t.picks,0<=z/\z<=255):
  Calls prog 71 #[.agg #[.pointer (some ⟨p,0,none⟩)],.agg (t.cells h3 hp).toArray] w (Puts F p l (numB 1 t.picks.length++t.picks.flatMap fun z=>numB 1 z.toNat) w):=by
 obtain⟨cs,hcs⟩:=gen_of ((t.cells h3 hp).toArray);obtain⟨W0,hW0⟩:=gen_of ((w.alloc (.cells #[.pointer (some ⟨p,0,none⟩)] 102)).alloc (.cells cs 55));have b1:Blk W0 w.heap.size #[.pointer (some ⟨p,0,none⟩)] 102:=by rw[<-hW0];exact(Blk.new _ _ _).alloc _
 have b2:Blk W0 (w.heap.size+1) cs 55:=by rw[<-hW0];have:=Blk.new (w.alloc (.cells #[.pointer (some ⟨p,0,none⟩)] 102)) cs 55;simpa using this
 have B0:Below w.heap.size w W0:=by rw[<-hW0];exact(bel_refl.alloc nat_le_rfl _).alloc (by simp) _
 have k29:W0.cell? ⟨w.heap.size+1,29,none⟩=some (.slice hp.a hp.n hp.c):=by rw[b2.cell,<-hcs];rfl
 have kn:Hid (∀W,Blk W (w.heap.size+1) cs 55->W.cell? ⟨w.heap.size+1,29,none⟩=some (.slice hp.a hp.n hp.c)):=hid fun W hb=>by rw[hb.cell,<-hcs];rfl
 have hF:=h.lt;have hs0:=B0.size;have hln:=hi.len;rw[hln]at ha ⊢;obtain⟨za,hza⟩:∃z:Int,z=(hp.n:Int):=⟨_,rfl⟩;have C1:=sc_numbers (h:=(h.below B0).alloc (.cells #[.int .i64 za] 3)) hl 1 (by decide) (by decide) [za] (by intro z hz;simp at hz;subst hz;simp;omega) (some ⟨W0.heap.size,0,none⟩) 1 1 (LsAt.one W0 za 3) (fun _ x hx hm=>by cases hx;have:=hF _ hm;simp at this;omega) (by decide);rw[hza]at C1;replace C1:=hid C1;have S0:=hid (Stp.below (F:=F) (B0.alloc hs0 (.cells #[.int .i64 (hp.n:Int)] 3)));have HB1:=hid (b1.alloc (.cells #[.int .i64 (hp.n:Int)] 3));have HB2:=hid (b2.alloc (.cells #[.int .i64 (hp.n:Int)] 3));have HI:=hid ((hi.below B0).below (bel_refl.alloc nat_le_rfl (.cells #[.int .i64 (hp.n:Int)] 3)));have hF:=hid hF;have hif:=hid hif;rw[hcs];clear hcs hza;replace ha:=hid ha;replace hl:=hid hl;replace hn:=hid hn;go_enter func71,ntmps71;go_wp2_with (refine wL 102 rfl rfl b1 underlying102 ?_)
 refine C1.mono ?_;rintro e w1 ⟨F1,hs1,⟨hf1,rfl,hw1⟩ | ⟨hf1,rfl⟩⟩
 ·have hf1':fits l (numB 1 hp.n)=true:=by simpa using hf1
  have hw1':Wr w1 F1 p (l++numB 1 hp.n):=by simpa using hw1
  have hl1:(l++numB 1 hp.n).length<=65536:=by unfold fits at hf1';rw[decide_eq_true_eq]at hf1';rw[List.length_append];exact hf1'
  have b11:=HB1.keepW hs1.wrote (fun hx=>by have:=hF _ hx;omega);have b21:=HB2.keepW hs1.wrote (fun hx=>by have:=hF _ hx;omega);have k29':=kn w1 b21;have hif1:t.picks≠[]->∀x,hp.a=some x->x.block∉F1:=fun hne x hx=>by obtain⟨y,hy⟩:∃y,t.picks[0]?=some y:=⟨_,List.getElem?_eq_getElem (List.length_pos_iff.2 hne)⟩;obtain⟨g,off,e,hg, -⟩:=HI.at' 0 y hy;rw[hx]at e;cases e;exact hs1.not (hif hne _ hx) hg
  have C2:=hid (sc_numbers (h:=hw1') hl1 1 (by decide) (by decide) t.picks (fun z hz=>by have:=hn z hz;simp;omega) hp.a hp.n hp.c (HI.wrote hs1.wrote hif.out) hif1 (by have:=ha.out;omega));have S1:=hid (S0.trans hs1);have HF1:=hid hf1';clear hf1 hw1 hf1' hw1' hl1 b1 b2 b21 hs1 k29;go_wp2_with (refine wL 102 rfl rfl b11 underlying102 ?_);refine C2.mono ?_;rintro e w2 ⟨F2,hs2,⟨hf2,rfl,hw2⟩ | ⟨hf2,rfl⟩⟩
  ·have H:=hid (show Puts F p l (numB 1 hp.n++t.picks.flatMap fun z=>numB 1 z.toNat) w (.returned (.tuple #[])) w2 from⟨F2,S1.trans hs2,.inl ⟨by rw[fits_app,HF1.out,Bool.true_and];exact hf2,rfl,by rw[<-List.append_assoc];exact hw2⟩⟩)
   clear hs2 hf2 hw2;go_wp2_with fail
   go_end0
   exact H.out
  refine⟨rfl,⟨F2,S1.trans hs2,.inr ⟨?_,rfl⟩⟩⟩;rw[fits_app,HF1.out,Bool.true_and];exact hf2
 refine⟨rfl,⟨F1,S0.trans hs1,.inr ⟨?_,rfl⟩⟩⟩;rw[fits_app];have h7:fits l (numB 1 hp.n)=false:=by simpa using hf1
 rw[h7,Bool.false_and]
end
end Go.Proofs.YtkghejaimhoboaaGreatDoor
