/- Parts of the proof of ScriptTurns. -/
import Derived.Test.YtkghejaimhoboaaGreatDoorPk03
import Derived.Maps.OwnOps
import Derived.Maps.OwnSet
import Derived.Test.YtkghejaimhoboaaGreatDoorPk02
set_option linter.unusedSimpArgs false
set_option linter.unusedVariables false
set_option maxRecDepth 100000
set_option maxHeartbeats 8000000
namespace Go.Proofs.YtkghejaimhoboaaGreatDoor
open Go.RowKit Go.Shelf Go.Proofs.Tryz
section
section
variable {P:Program} {ops:Array Oper}
def uw(md:Region.Mode)(ops:Array Oper)(i:Nat):Nat->Nat->Bool
 | 0,_=>false
 |f+1,k=>match ops[k]? with
  | none=>true
  | some o=>o.after.any fun e=>Region.binds md e&&(e.on==i||((ops[e.on]?).isSome&&uw md ops i f e.on))
theorem Cz{md:Region.Mode}{listed:Array Bool}(hc:eZ md ops listed)(k:Nat)(h:ops[k]?=none):listed.getD k false=false:=by have h1:=Array.getElem?_eq_none_iff.1 h;have h2:listed[k]?=none:=Array.getElem?_eq_none_iff.2 (by rw[hc.1];exact h1);rw[Array.getD_eq_getD_getElem?,h2];rfl
theorem sf{md:Region.Mode}{listed:Array Bool}{i:Nat}(hc:eZ md ops listed)(hn:listed.getD i true=false):∀(f k:Nat),uw md ops i f k=true->listed.getD k false=false
 | 0,_,h=>by cases h
 | f+1,k,h=>by
  unfold uw at h;cases hk:ops[k]? with
  | none=>exact Cz hc k hk
  | some o=>
   rw[hk]at h;obtain⟨e,he,hb⟩:=Array.any_eq_true'.1 h;simp only[Bool.and_eq_true,Bool.or_eq_true,beq_iff_eq]at hb;cases hl:listed.getD k false with
   | false=>rfl
   | true=>
    exfalso;have h1:=hc.2 k o hk hl e he hb.1;rcases hb.2 with h2 | ⟨-,h2⟩
    ·rw[h2]at h1;rcases Nat.lt_or_ge i listed.size with h' | h'
     ·simp[h']at hn h1;rw[hn]at h1;cases h1
     simp[Array.getElem?_eq_none h']at h1
    have h3:=sf hc hn f e.on h2;rw[h1]at h3;cases h3
theorem Rw.aaN{md:Region.Mode}{facts:List Fact}{i:Nat}{w:World}(h:Rw md ops facts i w)(k:Nat)(p:World->Prop)(hm:(k,p)∈facts)(hw:uw md ops i (ops.size+1) k=true):p w:=by obtain⟨listed,h1,h2,h3⟩:=h;exact h3 _ hm (sf h1 h2 _ _ hw)
variable {KQ:Exit->Act->World->Prop} {facts:List Fact} {taken:List Nat} {a:Act} {w:World}
end
end
section
open Go.RowKit Go.Shelf Go.MapKept Go.ChangeMaps
theorem x7(q:IntKind)(n:Int):∀(es:List MapEntry)(i:Nat),(∀x:MapEntry,x∈es->∃a,x.key=.int q a/\a≠n)->Instr.findNow (.int q) (.int q n) es i=some none:=by
 intro es;induction es with
 | nil=>intro i _;rfl
 |cons e es ih=>
  intro i h;obtain⟨a,ha,hn⟩:=h e (by simp);have hb:(n==a)=false:=by simp;omega
  simp[Instr.findNow,ha,Instr.sameNow,hb];exact ih _ (fun x hx=>h x (by simp[hx]))
def NV(es:Array MapEntry)(key val:Value)(clock:Nat):Array MapEntry:=es.push {key,val,born:=clock}
theorem qb{P:Program}(t k e:TypeId)(q:IntKind)(ht:P.underlying t=some (.map k e))(hk:P.underlying k=some (.int q))(w:World)(b:Nat)(es:Array MapEntry)(clock:Nat)
  (hb:w.heap[b]?=some (.map es clock)) (n:Int) (hn:∀x:MapEntry,x∈es.toList->∃a,x.key=.int q a/\a≠n) (v:Value):
  (Instr.mapUpdate t (.map (some b)) (.int q n) v).run P w=.ok () (setBlock w b (.map (NV es (.int q n) v clock) (clock+1))):=by
 have h1:=run_findKey (w:=w) hk (x7 q n es.toList 0 hn);have h2:=run_checkKey (w:=w) hk (k:=.int q n) (by simp[IsKey]) false 9999;simp[Instr.mapUpdate,run_underlying ht,MapKept.run_getObj_map hb,h2,h1,MapKept.run_setObj_map _ hb,Result.andThen,setBlock,NV]
theorem qd{P:Program}(w:World){ops:Array Oper}{rest:List Oper}{o:Oper}{a:Act}{Q:Exit->Act->World->Prop}
  (hg:o.guard=none) (m x v:Operand) (t:TypeId) (hop:o.op=Op.insert t m x v)
  (k e:TypeId) (q:IntKind) (ht:P.underlying t=some (.map k e)) (hk:P.underlying k=some (.int q)) (b:Nat) (es:Array MapEntry) (clock:Nat)
  (hm:a.eval m=.map (some b)) (hb:w.heap[b]?=some (.map es clock)) (n:Int) (val:Value) (hx:a.eval x=.int q n) (hv:a.eval v=val)
  (hn:∀x:MapEntry,x∈es.toList->∃a,x.key=.int q a/\a≠n)
  (hK:∀w',w'.heap[b]?=some (.map (NV es (.int q n) val clock) (clock+1))->w.grownBy w' (some b)->wpList P ops Q rest (a.put o.dst undef) w'):
  wpList P ops Q (o::rest) a w:=by
 refine wpList_plain hg fun K' hK'=>?_;have hrun:=qb t k e q ht hk w b es clock hb n hn val;unfold Oper.wp;simp[execOp,hop,hm,hx,hv,hrun,Result.andThen];refine hK' _ _ (hK _ ?_ ?_)
 ·have:b<w.heap.size:=by rcases Nat.lt_or_ge b w.heap.size with h | h;exact h;rw[Array.getElem?_eq_none h]at hb;cases hb
  simp[setBlock,this]
 exact World.mapTurned.grown ⟨es,clock,_,_,hb,rfl⟩
theorem kJ{P:Program}(t k e:TypeId)(q:IntKind)(ht:P.underlying t=some (.map k e))(hk:P.underlying k=some (.int q))(w:World)(b:Nat)(es:Array MapEntry)(clock:Nat)
  (hb:w.heap[b]?=some (.map es clock)) (n:Int) (v:Value) (j:Nat) (hn:Instr.findNow (.int q) (.int q n) es.toList 0=some (some (j,v))) (c:Bool):
  (Instr.lookup t (.map (some b)) (.int q n) c).run P w=.ok (if c then .tuple #[v,.bool true]else v) w:=by
 have h1:=run_findKey (w:=w) hk hn;have h2:=fun z=>run_checkKey (w:=w) hk (k:=.int q n) (by simp[IsKey]) z 9999;simp[Instr.lookup,run_underlying ht,MapKept.run_getObj_map hb,h2,h1,Result.andThen]
end
section
open Go.RowKit Go.Shelf Go.MapKept Go.ChangeMaps
def aaO(s:List UInt8):Value:=.string ⟨s.toArray⟩
abbrev WL:=List (List UInt8×Int)
structure WM (w:World)(b:Nat)(l:WL):Prop where
 out:∃es clock,w.heap[b]?=some (.map es clock)/\es.toList.map (fun e=>(e.key,e.val))=l.map (fun p=>(aaO p.1,Value.int .i64 p.2))
 nodup:(l.map Prod.fst).Nodup
 st:∀es clock,w.heap[b]?=some (.map es clock)->Stamped es clock
theorem WM.lt{w:World}{b:Nat}{l:WL}(h:WM w b l):b<w.heap.size:=by obtain⟨⟨es,clock,hb,_⟩,_,_⟩:=h;exact(Array.getElem?_eq_some_iff.1 hb).1
theorem WM.keep{w w':World}{b:Nat}{l:WL}(h:WM w b l)(hk:w'.heap[b]?=w.heap[b]?):WM w' b l:=by obtain⟨⟨es,clock,hb,he⟩,hn,hs⟩:=h;exact⟨⟨es,clock,hk.trans hb,he⟩,hn,fun es clock h=>hs es clock (hk.symm.trans h)⟩
theorem WM.ag{w w':World}{b:Nat}{l:WL}(h:WM w b l)(hb:Below w.heap.size w w'):WM w' b l:=h.keep (hb.block _ h.lt)
theorem WM.alloc{w:World}{b:Nat}{l:WL}(h:WM w b l)(o:Obj):WM (w.alloc o) b l:=h.ag ((Below.refl _ w).alloc ah o)
theorem WM.new(w:World):WM (w.alloc (.map #[] 0)) w.heap.size []:=⟨⟨#[],0,World.alloc_heap_new w _,rfl⟩,List.nodup_nil,fun es clock h=>by rw[World.alloc_heap_new]at h;cases h;exact stamped_empty 0⟩
theorem x8{P:Program}(t k e:TypeId)(ht:P.underlying t=some (.map k e)){w:World}{b:Nat}{l:WL}(h:WM w b l)(ty:TypeId):
  (Builtin.len_ #[t] ty #[.map (some b)]).run P w=.ok (.int .i64 l.length) w:=by
 obtain⟨⟨es,clock,hb,he⟩,hn,hs⟩:=h;have hl:es.size=l.length:=by have:=congrArg List.length he;simpa using this
 simp[Builtin.len_,run_underlying ht,MapKept.run_getObj_map hb,goInt,Result.andThen,hl]
end
section
open Go.RowKit Go.Shelf Go.MapKept Go.ChangeMaps
def ux(q:IntKind)(es:List MapEntry)(k:Int):Option Value:=match Instr.findNow (.int q) (.int q k) es 0 with
 | some (some (_,v))=>some v
 | _=>none
def IM(q:IntKind)(w:World)(b:Nat)(G:Int->Option Value):Prop:=
 ∃es clock,w.heap[b]?=some (.map es clock)/\(∀x∈es.toList,IsKey (.int q) x.key)/\∀k,ux q es.toList k=G k
variable {q:IntKind} {w:World} {b:Nat} {G:Int->Option Value}
theorem IM.lt(h:IM q w b G):b<w.heap.size:=by obtain⟨es,clock,hb,_⟩:=h;exact(Array.getElem?_eq_some_iff.1 hb).1
theorem IM.keep{w':World}(h:IM q w b G)(hk:w'.heap[b]?=w.heap[b]?):IM q w' b G:=by obtain⟨es,clock,hb,he⟩:=h;exact⟨es,clock,hk.trans hb,he⟩
theorem IM.ag{w':World}(h:IM q w b G)(hb:Below w.heap.size w w'):IM q w' b G:=h.keep (hb.block _ h.lt)
theorem IM.wrote{w':World}{M:List Nat}(h:IM q w b G)(hb:ak M w w')(hM:b∉M):IM q w' b G:=h.keep (hb.block _ h.lt hM)
theorem IM.alloc(h:IM q w b G)(o:Obj):IM q (w.alloc o) b G:=h.ag ((Below.refl _ w).alloc ah o)
theorem IM.new(w:World):IM q (w.alloc (.map #[] 0)) w.heap.size (fun _=>none):=⟨#[],0,World.alloc_heap_new w _,by simp,fun k=>rfl⟩
theorem IM.grown{w':World}{v:Value}(h:IM q w b G)(hg:w.grownBy w' v.ownBlock)(hv:v.ownBlock≠some b):IM q w' b G:=h.keep (hg.block _ h.lt (fun e=>hv e.symm))
theorem xl{q:IntKind}{v:Value}(h:IsKey (.int q) v):∃n,v=.int q n:=by cases v<;>simp[IsKey]at h;subst h;exact⟨_,rfl⟩
theorem IM.found(h:IM q w b G)(k:Int):∃es clock,w.heap[b]?=some (.map es clock)/\(∀x∈es.toList,IsKey (.int q) x.key)/\(∀k,ux q es.toList k=G k)/\
  ((G k=none/\Instr.findNow (.int q) (.int q k) es.toList 0=some none)\/∃j v e,G k=some v/\Instr.findNow (.int q) (.int q k) es.toList 0=some (some (j,v))/\es[j]?=some e/\e.key=.int q k):=by
 obtain⟨es,clock,hb,hk,hG⟩:=h;refine⟨es,clock,hb,hk,hG,?_⟩;have h1:=hG k;unfold ux at h1;rcases findNow_spec (d:=.int q) (k:=.int q k) (by simp[IsKey]) es.toList 0 hk with⟨h2,h3⟩ | ⟨j,e,h2,h3,h4⟩
 ·rw[h2]at h1;exact .inl ⟨h1.symm,h2⟩
 rw[h2]at h1;refine .inr ⟨j,e.val,e,h1.symm,by simpa using h2,by simpa using h3,h4⟩
theorem ed{P:Program}(t k e:TypeId)(ht:P.underlying t=some (.map k e))(hk:P.underlying k=some (.int q))(h:IM q w b G)(z:Value)(hz:(zeroValue e).run P w=.ok z w)(n:Int)(c:Bool):
  (Instr.lookup t (.map (some b)) (.int q n) c).run P w=.ok (if c then .tuple #[(G n).getD z,.bool (G n).isSome]else(G n).getD z) w:=by
 obtain⟨es,clock,hb,_,_,h1⟩:=h.found n;have h2:=fun z=>run_checkKey (w:=w) hk (k:=.int q n) (by simp[IsKey]) z 9999;rcases h1 with⟨hl,hf⟩ | ⟨j,v,e',hl,hf,_⟩
 ·have h1:=run_findKey (w:=w) hk hf;simp[Instr.lookup,run_underlying ht,MapKept.run_getObj_map hb,h2,h1,hz,Result.andThen,hl]
 have h1:=run_findKey (w:=w) hk hf;simp[Instr.lookup,run_underlying ht,MapKept.run_getObj_map hb,h2,h1,Result.andThen,hl]
theorem uy(q:IntKind)(k:Int)(d:Nat):∀(es:List MapEntry)(i:Nat),Instr.findNow (.int q) (.int q k) es (i+d)=(Instr.findNow (.int q) (.int q k) es i).map (Option.map fun p=>(p.1+d,p.2)):=by
 intro es;induction es with
 | nil=>intro i;rfl
 | cons x xs ih=>
  intro i;simp only[Instr.findNow];cases Instr.sameNow (.int q) (.int q k) x.key with
  | none=>rfl
  | some r=>
   cases r with
   | true=>rfl
   |false=>simp only;rw[show i+d+1=(i+1)+d by omega];exact ih (i+1)
theorem vY(q:IntKind)(k:Int)(es:List MapEntry)(i:Nat):Instr.findNow (.int q) (.int q k) es i=(Instr.findNow (.int q) (.int q k) es 0).map (Option.map fun p=>(p.1+i,p.2)):=by
 have:=uy q k i es 0
 rwa [Nat.zero_add]at this
theorem gm(q:IntKind)(x:MapEntry)(xs:List MapEntry)(n:Int)(hn:x.key=.int q n)(hk:∀y∈xs,IsKey (.int q) y.key)(k:Int):ux q (x::xs) k=if k=n then some x.val else ux q xs k:=by
 unfold ux;simp only[Instr.findNow,hn,Instr.sameNow,if_true];by_cases h:k=n
 ·subst h;simp
 have hb:(k==n)=false:=by simp[h]
 rw[hb,if_neg h];simp only;rw[vY q k xs (0+1)];rcases findNow_spec (d:=.int q) (k:=.int q k) (by simp[IsKey]) xs 0 hk with⟨g2,g3⟩ | ⟨j2,e,g2,g3,g4⟩<;>rw[g2]<;>rfl
theorem GX(q:IntKind)(es:List MapEntry)(n:Int)(v:Value)(c:Nat)(hk:∀y∈es,IsKey (.int q) y.key)(hn:ux q es n=none)(k:Int):
  ux q (es++[{key:=.int q n,val:=v,born:=c}]) k=if k=n then some v else ux q es k:=by
 induction es with
 |nil=>rw[List.nil_append,gm q _ [] n rfl (by simp)]
 |cons x xs ih=>
  obtain⟨m,hm⟩:=xl (hk x (by simp));have zk:∀y∈xs,IsKey (.int q) y.key:=fun y hy=>hk y (by simp[hy]);rw[gm q x xs m hm zk]at hn;have vZ:n≠m:=by intro e;rw[if_pos e]at hn;cases hn
  rw[if_neg vZ]at hn;rw[List.cons_append,gm q x _ m hm (by intro y hy;rcases List.mem_append.1 hy with h | h;exact zk y h;simp at h;subst h;simp[IsKey]),gm q x xs m hm zk,ih zk hn];by_cases h1:k=m
  ·subst h1;rw[if_pos rfl,if_neg (Ne.symm vZ)];simp
  rw[if_neg h1,if_neg h1]
theorem zW(q:IntKind)(n:Int)(v:Value):∀(es:List MapEntry)(i j:Nat)(u:Value),(∀y∈es,IsKey (.int q) y.key)->Instr.findNow (.int q) (.int q n) es i=some (some (i+j,u))->∀k,
  ux q (es.modify j fun e=>{e with key:=.int q n,val:=v}) k=if k=n then some v else ux q es k:=by
 intro es;induction es with
 | nil=>intro i j u _ h;simp[Instr.findNow]at h
 | cons x xs ih=>
  intro i j u hk h k;obtain⟨m,hm⟩:=xl (hk x (by simp));have zk:∀y∈xs,IsKey (.int q) y.key:=fun y hy=>hk y (by simp[hy]);have h0:=h;simp only[Instr.findNow,hm,Instr.sameNow,if_true]at h;by_cases vZ:n=m
  ·subst vZ;simp at h;obtain⟨rfl,_⟩:=h;rw[List.modify_zero_cons,gm q _ xs n rfl zk,gm q x xs n hm zk];by_cases h1:k=n
   ·rw[if_pos h1,if_pos h1]
   rw[if_neg h1,if_neg h1,if_neg h1]
  have hb:(n==m)=false:=by simp[vZ]
  rw[hb]at h;simp only at h;cases j with
  |zero=>
   rcases findNow_spec (d:=.int q) (k:=.int q n) (by simp[IsKey]) xs (i+1) zk with⟨h2,_⟩ | ⟨j',e,h2,_,_⟩<;>rw[h2]at h<;>simp at h
   omega
  | succ j=>
   have h1:=ih (i+1) j u zk (by rw[show i+1+j=i+(j+1) by omega];exact h) k;have hk2:∀y∈(xs.modify j fun e=>{e with key:=.int q n,val:=v}),IsKey (.int q) y.key:=by
    intro y hy;obtain⟨i',hi'⟩:=List.getElem?_of_mem hy;rw[List.getElem?_modify]at hi';cases hx:xs[i']? with
    | none=>rw[hx]at hi';simp at hi'
    |some z=>
     rw[hx]at hi';simp at hi';split at hi'<;>subst hi'
     ·simp[IsKey]
     exact zk z (List.mem_of_getElem? hx)
   rw[List.modify_succ_cons,gm q x _ m hm hk2,h1,gm q x xs m hm zk];by_cases h2:k=m
   ·subst h2;rw[if_pos rfl,if_neg (Ne.symm vZ)];simp
   rw[if_neg h2,if_neg h2]
theorem oY{P:Program}(t k e:TypeId)(ht:P.underlying t=some (.map k e))(hk:P.underlying k=some (.int q))(h:IM q w b G)(n:Int)(v:Value):
  ∃w',(Instr.mapUpdate t (.map (some b)) (.int q n) v).run P w=.ok () w'/\IM q w' b (fun k=>if k=n then some v else G k)/\w.grownBy w' (some b):=by
 obtain⟨es,clock,hb,hkey,hG,h1⟩:=h.found n;have h2:=run_checkKey (w:=w) hk (k:=.int q n) (by simp[IsKey]) false 9999;have hlt:b<w.heap.size:=h.lt;rcases h1 with⟨hl,hf⟩ | ⟨j,u,e1,hl,hf,hj,Zg⟩
 ·have h1:=run_findKey (w:=w) hk hf;refine⟨setBlock w b (.map (es.push {key:=.int q n,val:=v,born:=clock}) (clock+1)),?_,⟨es.push {key:=.int q n,val:=v,born:=clock},clock+1,by simp[setBlock,hlt],?_,fun k=>?_⟩,World.mapTurned.grown ⟨es,clock,_,_,hb,rfl⟩⟩
  ·simp[Instr.mapUpdate,run_underlying ht,MapKept.run_getObj_map hb,h2,h1,MapKept.run_setObj_map _ hb,Result.andThen,setBlock]
  ·intro x hx;simp at hx;rcases hx with hx | rfl
   ·exact hkey x (by simpa using hx)
   simp[IsKey]
  rw[Array.toList_push,GX q es.toList n v clock hkey (by rw[hG,hl]) k,hG]
 have h1:=run_findKey (w:=w) hk hf;refine⟨setBlock w b (.map (es.modify j fun e=>{e with key:=.int q n,val:=v}) clock),?_,⟨es.modify j fun e=>{e with key:=.int q n,val:=v},clock,by simp[setBlock,hlt],?_,fun k=>?_⟩,World.mapTurned.grown ⟨es,clock,_,_,hb,rfl⟩⟩
 ·have eD:Instr.sameBits 10000 (.int q n) (.int q n)=true:=by simp[Instr.sameBits]
  simp[Instr.mapUpdate,run_underlying ht,MapKept.run_getObj_map hb,h2,h1,MapKept.run_setObj_map _ hb,Result.andThen,setBlock,hj,Zg,Instr.keyThatStays,eD]
 ·refine isKey_modify hkey j _ (fun e he=>?_);rw[hj]at he;cases he;exact Zg.symm
 rw[Array.toList_modify,zW q n v es.toList 0 j u hkey (by simpa using hf) k,hG]
theorem wh{P:Program}{ops:Array Oper}{rest:List Oper}{o:Oper}{a:Act}{Q:Exit->Act->World->Prop}
  (hg:o.guard=none) (m x v:Operand) (t:TypeId) (hop:o.op=Op.insert t m x v) (k e:TypeId) (ht:P.underlying t=some (.map k e)) (hk:P.underlying k=some (.int q)) (h:IM q w b G)
  (hm:a.eval m=.map (some b)) (n:Int) (val:Value) (hx:a.eval x=.int q n) (hv:a.eval v=val)
  (hK:∀w',IM q w' b (fun k=>if k=n then some val else G k)->w.grownBy w' (some b)->wpList P ops Q rest (a.put o.dst undef) w'):
  wpList P ops Q (o::rest) a w:=by
 refine wpList_plain hg fun K' hK'=>?_;obtain⟨w',hrun,h1,h2⟩:=oY t k e ht hk h n val;unfold Oper.wp;simp[execOp,hop,hm,hx,hv,hrun,Result.andThen];exact hK' _ _ (hK _ h1 h2)
theorem lT{P:Program}{o:Oper}{a:Act}{K:Act->World->Prop}{Q:Exit->Act->World->Prop}
  (m x v:Operand) (t:TypeId) (hop:o.op=Op.mapUpdate t m x v) (k e:TypeId) (ht:P.underlying t=some (.map k e)) (hk:P.underlying k=some (.int q)) (h:IM q w b G)
  (hm:a.eval m=.map (some b)) (n:Int) (val:Value) (hx:a.eval x=.int q n) (hv:a.eval v=val)
  (hK:∀w',IM q w' b (fun k=>if k=n then some val else G k)->w.grownBy w' (some b)->K (a.put o.dst undef) w'):o.wp P a w K Q:=by
 obtain⟨w',hrun,h1,h2⟩:=oY t k e ht hk h n val;unfold Oper.wp;simp[execOp,hop,hm,hx,hv,hrun,Result.andThen];exact hK _ h1 h2
section
variable {P:Program} {ops:Array Oper} {KQ:Exit->Act->World->Prop} {facts:List Fact} {taken:List Nat} {a:Act} {w:World}
theorem gM(i:Nat){oi:Oper}(hi:ops[i]?=some oi)(hB:iA ops (facts.map (·.1)) taken i=true)(hw:Region.wanted oi (yielded ops a.tmps)=true){t:TypeId}{x y:Operand}{c:Bool}(hop:oi.op=.lookup t x y c){u z:Value}(hx:a.eval x=u)(hy:a.eval y=z)
  (n:Nat) {k:Nat} {p:World->Prop} (hf:facts[n]?=some (k,p)) (hk:waits .any ops k i=true) (v:Value) (hr:∀w',p w'->(Instr.lookup t u z c).run P w'=.ok v w')
  (h:atR P ops KQ facts (i::taken) (a.put oi.dst v) w):atR P ops KQ facts taken a w:=by
 refine oW i hi hB v (.inl ⟨hw,fun w' hu=>?_⟩) h;have h1:=hr w' (hu.get k p (List.mem_of_getElem? hf) hk);simp only[execOp,hop,hx,hy,Sem.run_bind,h1,Result.andThen_ok,Sem.run_pure]
theorem VR(i:Nat){oi:Oper}(hi:ops[i]?=some oi)(hB:iA ops (facts.map (·.1)) taken i=true)(hw:Region.wanted oi (yielded ops a.tmps)=true){t:TypeId}{x y:Operand}{c:Bool}(hop:oi.op=.lookup t x y c){u z:Value}(hx:a.eval x=u)(hy:a.eval y=z)
  (n:Nat) {k:Nat} {p:World->Prop} (hf:facts[n]?=some (k,p)) (hk:uw .any ops i (ops.size+1) k=true) (v:Value) (hr:∀w',p w'->(Instr.lookup t u z c).run P w'=.ok v w')
  (h:atR P ops KQ facts (i::taken) (a.put oi.dst v) w):atR P ops KQ facts taken a w:=by
 refine oW i hi hB v (.inl ⟨hw,fun w' hu=>?_⟩) h;have h1:=hr w' (hu.aaN k p (List.mem_of_getElem? hf) hk);simp only[execOp,hop,hx,hy,Sem.run_bind,h1,Result.andThen_ok,Sem.run_pure]
end
end
section
attribute [local go_sem] Oper.semAt_some
def VS(x:Nat×Nat):Array Value:=#[.int .i64 x.1,.int .i32 x.2]
def uz(s:List UInt8)(pre:List (Nat×Nat))(x:Nat×Nat)(_W:World):Prop:=
 ∃s' p',iE s 0 pre s' p'/\s'≠[]/\((kW s' p'=true/\x=(p',0))\/(kW s' p'=false/\x=(p',(aU s').1)))
def J7(s:List UInt8)(xs:List (Nat×Nat)):Prop:=
 (∃p',iE s 0 xs [] p')\/∃pre s' p',iE s 0 pre s' p'/\s'≠[]/\kW s' p'=true/\xs=pre++[(p',0)]
theorem GY(s:List UInt8)(w:World):
  Calls prog 305 #[.string ⟨s.toArray⟩] w fun e w'=>e=.returned (.func (.func 329) #[] #[.pointer (some ⟨w.heap.size,0,none⟩)])/\w.alloc (.cells #[.string ⟨s.toArray⟩] 9)=w':=by
 go_enter func305,ntmps305;go_wp2;go_ret;exact⟨rfl,rfl⟩
theorem CH(s:List UInt8)(w0 w:World)(B:Nat)(hs:s.length<=1000000)(hB0:w0.heap.size<=B)(hw:Below w0.heap.size w0 w)(hb:Boxed w B 9 (.string ⟨s.toArray⟩)):
  Nz prog 329 #[.pointer (some ⟨B,0,none⟩)] VS (dW w0.heap.size [B]) (ak []) (uz s) (J7 s) (fun _=>True) w:=by
 intro lb J Jx W hW Ni hJ hJx hY h0;refine callsIn_of_wp func329 rfl trivial ?_ rfl;simp only[ntmps329,List.size_toArray,List.length_cons,List.length_nil,Nat.reduceAdd,Nat.reduceSub,Array.replicate_succ,Array.replicate_zero,List.push_toArray,List.append_toArray,List.nil_append,List.cons_append];have hsz:ByteArray.size ⟨s.toArray⟩=s.length:=by simp[ByteArray.size]
 gi_wp2
 gi_loopw [3,4,5] (fun at_ _ _ wr=>∃(pre:List (Nat×Nat))(s':List UInt8)(p':Nat),at_=.int .i64 p'/\p'<=s.length/\Below w0.heap.size w0 wr/\Boxed wr B 9 (.string ⟨s.toArray⟩)/\iE s 0 pre s' p'/\Hid (s'=s.drop p')/\J pre wr)
  (fun at_ _ _ _=>s.length-(intOf at_).toNat)
 case atStart=>exact⟨[],s,0,rfl,Nat.zero_le _,hw.trans (hW.mono hw.size),aF hb hW,⟨rfl,rfl⟩,rfl,h0⟩
 case round=>
  obtain⟨pre,s',p',rfl,hp,bK,kI,hch,hs',hj⟩:=hrel;have hc1:=kI.cell;rcases Nat.lt_or_ge p' s.length with hlt | jw
  ·have hcut:=fun W=>zU s p' hp W;have hl':s'.length=s.length-p':=by rw[hs'.out];simp
   have HC:=af (GW s' wr (by omega));rw[<-hs'.out]at hcut;have hle:=rp s';have jL:kW s' p'=(decide ((aU s').2=0)||decide (65535<p'+(aU s').2)):=rfl;have hne:s'≠[]:=by intro h;rw[h]at hl';simp at hl';omega
   have HNX:∀x,(kW s' p'=true/\x=(p',0))\/(kW s' p'=false/\x=(p',(aU s').1))->uz s pre x wr:=fun x hx=>⟨s',p',hch,hne,hx⟩;have HF:=af (show aU s'=((aU s').1,(aU s').2)from rfl);have Qe:=af (fun h=>hch.snoc hne h);generalize x5:(aU s').1=r at*
   generalize RH:(aU s').2=n at*
   rcases(show n=0\/(0<n/\65535<p'+n)\/(0<n/\p'+n<=65535) by omega)with rfl | ⟨hn,pR⟩ | ⟨hn,pR⟩
   ·gi_wp2_with fail
    refine Ru HC.out ?_;rintro e w2 ⟨rfl,hb2⟩;have fO:=bK.trans (hb2.mono bK.size);have sT:=aF kI hb2;have JV:=hJ _ _ _ hj (ak.aK hb2);obtain⟨fn,tmps,assign,body,hy,hR⟩:=hY pre (p',0) w2 JV (HNX _ (.inl ⟨by simp[jL],rfl⟩));replace hy:(Instr.yield lb #[.int .i64 (p':Int),.int .i32 0]).run prog w2=_:=hy;have HR:=af hR;clear hR;gi_wp2_with fail;refine⟨rfl,HR.mono ?_⟩;rintro e W3 (⟨rfl,hJ3,hk3⟩ | ⟨rfl,CJ⟩)
    ·gi_wp2
     refine bodyPost_ret (results_none rfl _ _ _) rfl ?_;exact⟨⟨_,rfl⟩,.inl ⟨_,.inr ⟨pre,s',p',hch,hne,by simp[jL],rfl⟩,hJ3⟩⟩
    gi_wp2
    refine bodyPost_ret (results_none rfl _ _ _) rfl ?_;exact⟨⟨_,rfl⟩,.inr ⟨_,trivial,CJ⟩⟩
   ·have e1:((n:Int)==0)=false:=by simp;omega
    have Qi:kW s' p'=true:=by rw[jL];simp;omega
    gi_wp2_with fail
    refine Ru HC.out ?_;rintro e w2 ⟨rfl,hb2⟩;have fO:=bK.trans (hb2.mono bK.size);have sT:=aF kI hb2;have JV:=hJ _ _ _ hj (ak.aK hb2);obtain⟨fn,tmps,assign,body,hy,hR⟩:=hY pre (p',0) w2 JV (HNX _ (.inl ⟨Qi,rfl⟩));replace hy:(Instr.yield lb #[.int .i64 (p':Int),.int .i32 0]).run prog w2=_:=hy;have HR:=af hR;clear hR;gi_wp2_with fail;refine⟨rfl,HR.mono ?_⟩;rintro e W3 (⟨rfl,hJ3,hk3⟩ | ⟨rfl,CJ⟩)
    ·gi_wp2
     refine bodyPost_ret (results_none rfl _ _ _) rfl ?_;exact⟨⟨_,rfl⟩,.inl ⟨_,.inr ⟨pre,s',p',hch,hne,Qi,rfl⟩,hJ3⟩⟩
    gi_wp2
    refine bodyPost_ret (results_none rfl _ _ _) rfl ?_;exact⟨⟨_,rfl⟩,.inr ⟨_,trivial,CJ⟩⟩
   have e1:((n:Int)==0)=false:=by simp;omega
   have Qi:kW s' p'=false:=by rw[jL];simp;omega
   gi_wp2_with fail
   refine Ru HC.out ?_;rintro e w2 ⟨rfl,hb2⟩;have fO:=bK.trans (hb2.mono bK.size);have sT:=aF kI hb2;have JV:=hJ _ _ _ hj (ak.aK hb2);obtain⟨fn,tmps,assign,body,hy,hR⟩:=hY pre (p',r) w2 JV (HNX _ (.inr ⟨Qi,rfl⟩));replace hy:(Instr.yield lb #[.int .i64 (p':Int),.int .i32 (r:Int)]).run prog w2=_:=hy;have HR:=af hR;clear hR;gi_wp2_with fail;refine⟨rfl,HR.mono ?_⟩;rintro e W3 (⟨rfl,hJ3,hk3⟩ | ⟨rfl,CJ⟩)
   ·have aaR:Boxed W3 B 9 _:=(hk3.keep B (by simp)).trans sT;have VT:=fO.trans hk3.bel
    gi_wp2
    go_roundw
    case rel=>refine⟨pre++[(p',r)],s'.drop n,p'+n,by go_num,by omega,VT,aaR,Qe Qi,?_,hJ3⟩;show s'.drop n=s.drop (p'+n);rw[hs'.out,List.drop_drop]
    case measure=>simp[intOf];omega
   gi_wp2
   refine bodyPost_ret (results_none rfl _ _ _) rfl ?_;exact⟨⟨_,rfl⟩,.inr ⟨_,trivial,CJ⟩⟩
  obtain rfl:p'=s.length:=by omega
  have hnil:s'=[]:=by rw[hs'.out];simp
  subst hnil;gi_wp2;refine bodyPost_end (results_none rfl _ _ _) rfl ?_;exact⟨⟨_,rfl⟩,.inl ⟨_,.inl ⟨_,hch⟩,hj⟩⟩
def cr(s:List UInt8):Int:=match (fp s 0).2 with
 | none=> -1
 | some p=>p
theorem xm(s:List UInt8)(p:Nat)(h:kW s p=false):(aU s).1≠0/\0<(aU s).2/\p+(aU s).2<=65535/\ia (aU s).1=true/\(aU s).1<=1114111/\(aU s).2=gF (aU s).1:=by
 simp only[kW,Bool.or_eq_false_iff,decide_eq_false_iff_not]at h;rcases rW s with h' | ⟨r,n,h',h1,h2,h3,_⟩
 ·rw[h']at h;exact absurd rfl h.1
 rw[h']at h ⊢;refine⟨h1,by omega,by omega,h2,?_,h3⟩;have:=(jH r).1 h2;dsimp only;omega
theorem uz.cases{s:List UInt8}{pre:List (Nat×Nat)}{x:Nat×Nat}{W:World}(h:uz s pre x W):(x.2=0/\(fp s 0).2=some x.1/\(fp s 0).1=pre.map (·.2))\/(x.2≠0/\x.2<=1114111):=by
 obtain⟨s',p',hch,hne,⟨hb,rfl⟩ | ⟨hb,rfl⟩⟩:=h
 ·refine .inl ⟨rfl,?_⟩;rw[hch.zB,tZ s' p' hne hb];simp
 exact .inr ⟨(xm s' p' hb).1,(xm s' p' hb).2.2.2.2.1⟩
theorem J7.cases{s:List UInt8}{xs:List (Nat×Nat)}(h:J7 s xs):((fp s 0).2=none/\(fp s 0).1=xs.map (·.2))\/∃x∈xs,x.2=0:=by
 rcases h with⟨p',hch⟩ | ⟨pre,s',p',hch,hne,hb,rfl⟩
 ·refine .inl ?_;rw[hch.zB];simp[tY]
 exact .inr ⟨(p',0),by simp,rfl⟩
def RI(w:World)(pre:List (Nat×Nat))(W:World):Prop:=(∀x∈pre,x.2≠0)/\Boxed W w.heap.size 3 (.int .i64 0)/\Below w.heap.size w W
def RJ(s:List UInt8)(w:World)(c:Code)(aaS:List (Nat×Nat))(W:World):Prop:=c=.ret/\Boxed W w.heap.size 3 (.int .i64 (cr s))/\Below w.heap.size w W
theorem xn(s:List UInt8)(w:World)(hs:s.length<=1000000):
  Calls prog 284 #[.string ⟨s.toArray⟩] w fun e w'=>e=.returned (.int .i64 (cr s))/\Below w.heap.size w w':=by
 refine rX func284 rfl ?_;simp only[ntmps284,List.size_toArray,List.length_cons,List.length_nil,Nat.reduceAdd,Nat.reduceSub,Array.replicate_succ,Array.replicate_zero,List.push_toArray,List.append_toArray,List.nil_append,List.cons_append];go_wp2_with fail
 refine(GY s _).mono ?_;rintro e w' ⟨rfl,rfl⟩;go_wp2_with fail
 generalize hW0:((w.alloc (Obj.cells #[Value.int IntKind.i64 0] 3)).alloc (Obj.cells #[Value.string ⟨s.toArray⟩] 9))=W0;have hsz:W0.heap.size=w.heap.size+2:=by rw[<-hW0];simp
 have hb0:Below w.heap.size w W0:=by rw[<-hW0];exact((Below.refl _ w).alloc ah _).alloc (by simp) _
 have kI:Boxed W0 w.heap.size 3 (.int .i64 0)/\Boxed W0 (w.heap.size+1) 9 (.string ⟨s.toArray⟩):=by have e1:=Boxed.new w 3 (.int .i64 0);have e2:=Boxed.new (w.alloc (Obj.cells #[Value.int IntKind.i64 0] 3)) 9 (.string ⟨s.toArray⟩);simp only[World.size_alloc]at e2;rw[<-hW0];exact⟨e1.alloc _,e2⟩
 obtain⟨b1,b2⟩:=kI;have sW:=af hW0;clear hW0;refine zC (α:=Nat×Nat) (gf:=329) (lb:=#[.pointer (some ⟨w.heap.size+1,0,none⟩)]) rfl (enters_of func329 (by kernel_rfl) rfl)
  (n₀:=w.heap.size) (L:=[w.heap.size+1]) (M:=[]) (CH s w W0 (w.heap.size+1) hs (by omega) hb0 b2)
  (by omega) (by simp;omega) (by simp) (fun _=>rfl) (RI w) (RJ s w) ?hI ?PU ?h0
  (fun pre x a' W=>uz s pre x W/\a'={tmps:=#[.string ⟨s.toArray⟩,undef,.pointer (some ⟨w.heap.size,0,none⟩),.int .i64 x.1,.int .i32 x.2,.string ⟨s.toArray⟩,.func (.func 329) #[] #[.pointer (some ⟨w.heap.size+1,0,none⟩)],.int .i64 x.1,.int .i32 x.2,undef,undef,undef],defers:=[]}) ?Rs ?assign ?body ?done ?stop
 case hI=>rintro s A A' ⟨g1,g2,g3⟩ hw;rw[hsz]at hw;exact⟨g1,hw.boxed (by simp<;>omega) g2,g3.trans (hw.ag g3.size (by simp<;>omega))⟩
 case PU=>rintro c s A A' ⟨rfl,g1,g2⟩ hw;rw[hsz]at hw;exact⟨rfl,hw.boxed (by simp<;>omega) g1,g2.trans (hw.ag g2.size (by simp<;>omega))⟩
 case h0=>exact⟨by simp,b1,hb0⟩
 case Rs=>rintro pre x a' A A' ⟨hx,rfl⟩ hl hw;exact⟨hx,rfl⟩
 case assign=>
  intro pre x W K hl hi hx hK;simp only[VS]
  gi_wp2
  refine hK _ _ ai hi ⟨hx,rfl⟩
 case body=>
  rintro pre x a' W hl ⟨g1,g2,g3⟩ ⟨hx,rfl⟩;have c1:=g2.cell;have f1:=g2.frozen;rcases hx.cases with⟨h1,h2,_⟩ | ⟨h1,h2⟩
  ·have hwr:cr s=x.1:=by unfold cr;rw[h2]
   have HW:=af hwr;obtain⟨x1,x2⟩:=x;dsimp only at h1;subst h1;clear h2 hwr;gi_wp2;refine⟨dW.setCell _ _ (by simp) (by simp<;>omega) _,rfl,?_,g3.setCell (p:=⟨w.heap.size,0,none⟩) (by simp) _⟩;rw[HW.out];exact g2.set _
  have e1:((x.2:Int)==0)=false:=by simp;omega
  gi_wp2
  exact⟨dW.refl _ _ _,fun y hy=>by rcases List.mem_append.1 hy with hy | hy;exact g1 y hy;rw[List.mem_singleton.1 hy];exact h1,g2,g3⟩
 case done=>
  rintro xs W hS ⟨g1,g2,g3⟩ hl hD;rw[hsz]at hl;have hwr:cr s= -1:=by
   rcases hS.cases with⟨h,_⟩ | ⟨x,hx,h⟩
   ·unfold cr;rw[h]
   exact absurd h (g1 x hx)
  have HW:=af hwr;clear hwr hS;have c1:=g2.cell;have f1:=g2.frozen;go_wp2;have d1:Boxed (W.setCell ⟨w.heap.size,0,none⟩ (.int .i64 (-1))) w.heap.size 3 (.int .i64 (-1)):=g2.set _;refine pX (v:=.int .i64 (-1)) ?_ (fun w' hw'=>?_)
  ·exact(Below.heap_setCell _ _ _ _ (by simp;omega)).trans hD
  have wp:ak [W0.heap.size] (W.setCell ⟨w.heap.size,0,none⟩ (.int .i64 (-1))) w':=by rw[hw'];exact ak.putObj _ _ (by simp) _
  have d4:=(wp.boxed (by simp;omega) d1).cell;have hb:Below w.heap.size w (W.setCell ⟨w.heap.size,0,none⟩ (.int .i64 (-1))):=g3.setCell (p:=⟨w.heap.size,0,none⟩) (by simp) _;exact⟨by simp[results,results284,go_sem,d4],by first | rfl | rw[HW.out],hb.trans (wp.ag hb.size (by simp;omega))⟩
 case stop=>
  rintro c pre W _ ⟨rfl,g1,g2⟩ hl hD;rw[hsz]at hl;have c1:=g1.cell;have f1:=g1.frozen;go_wp2;have d1:Boxed W w.heap.size 3 (.int .i64 (cr s)):=g1;refine pX (v:=.int .i64 (cr s)) ?_ (fun w' hw'=>?_)
  ·exact hD
  have wp:ak [W0.heap.size] W w':=by rw[hw'];exact ak.putObj _ _ (by simp) _
  have d4:=(wp.boxed (by simp;omega) d1).cell;have hb:Below w.heap.size w W:=g2;exact⟨by simp[results,results284,go_sem,d4],by first | rfl | rw[HW.out],hb.trans (wp.ag hb.size (by simp;omega))⟩
def iF(s:List UInt8):Int:=if 0<=cr s then 220 else 0
theorem nO(s:List UInt8): -1<=cr s:=by unfold cr;split<;>omega
theorem rC(s:List UInt8)(w:World)(hs:s.length<=1000000):
  Calls prog 241 #[.string ⟨s.toArray⟩] w fun e w'=>e=.returned (.int .i64 (iF s))/\Below w.heap.size w w':=by
 unfold iF;by_cases h:0<=cr s
 ·rw[if_pos h];go_enter func241,ntmps241;go_wp2_with (go_at_call 284;refine(xn s _ hs).mono ?_;rintro e w1 ⟨rfl,hb⟩)
  go_ret;exact⟨rfl,hb⟩
 rw[if_neg h];go_enter func241,ntmps241;go_wp2_with (go_at_call 284;refine(xn s _ hs).mono ?_;rintro e w1 ⟨rfl,hb⟩)
 go_ret;exact⟨rfl,hb⟩
end
section
open Go.RowKit Go.Shelf Go.MapKept Go.ChangeMaps
end
section
theorem uA{P:Program}{w:World}{r:Nat}{es:Array MapEntry}{c:Nat}(h:w.heap[r]?=some (.map es c)):(getObj r).run P w=.ok (.map es c) w:=by simp[getObj,Sem.run,h]
theorem J8{P:Program}{w:World}{r:Nat}{m:Option Nat}{s l:Nat}{q:Array Nat}(h:w.heap[r]?=some (.mapIter m s q l)):(getObj r).run P w=.ok (.mapIter m s q l) w:=by simp[getObj,Sem.run,h]
theorem uB{P:Program}{t k e:TypeId}(ht:P.underlying t=some (.map k e)){w:World}{m:Nat}{cl:Nat}(h:w.heap[m]?=some (.map #[] cl)):
  (Instr.range t (.map (some m))).run P w=.ok (.pointer (some ⟨w.heap.size,0,none⟩)) (w.alloc (.mapIter (some m) cl #[] cl)):=by
 simp[Instr.range,run_underlying ht,uA h]
theorem wj{P:Program}{w:World}{r m s l cl:Nat}{ty:TypeId}(hr:w.heap[r]?=some (.mapIter (some m) s #[] l))(h:w.heap[m]?=some (.map #[] cl)):
  (Instr.next (.pointer (some ⟨r,0,none⟩)) false ty).run P w=.ok (.tuple #[.bool false]) w:=by
 have hf:(Question.mapNext 1).forced=true:=by decide
 simp[Instr.next,J8 hr,uA h,hf]
theorem qf{P:Program}{t k e:TypeId}(ht:P.underlying t=some (.map k e)){w:World}{b cl:Nat}(h:w.heap[b]?=some (.map #[] cl))(ty:TypeId):(Builtin.len_ #[t] ty #[.map (some b)]).run P w=.ok (.int .i64 0) w:=by simp[Builtin.len_,Builtin.lenOf,run_underlying ht,uA h,goInt]
section
variable {P:Program} {ops:Array Oper} {KQ:Exit->Act->World->Prop} {facts:List Fact} {taken:List Nat} {a:Act} {w:World}
theorem VU(i n:Nat){oi:Oper}{x:Operand}{tys:Array TypeId}{u v:Value}{k:Nat}{p:World->Prop}(hi:ops[i]?=some oi)(hop:oi.op=.call {callee:=.builtin .len,args:=#[x],argTypes:=tys})(hx:a.eval x=u)(hf:facts[n]?=some (k,p))
  (hr:∀w',p w'->(Builtin.len_ tys oi.type #[u]).run P w'=.ok v w') (h:atR P ops KQ facts (i::taken) (a.put oi.dst v) w)
  (hB:iA ops (facts.map (·.1)) taken i=true:=by kernel_rfl) (hw:Region.wanted oi (yielded ops a.tmps)=true:=by kernel_rfl) (hk:waits .any ops k i=true:=by kernel_rfl):atR P ops KQ facts taken a w:=by
 refine fM i hi hB v hw (fun w' hu=>?_) h;have h1:=hr w' (hu.get k p (List.mem_of_getElem? hf) hk);simp[execOp,hop,resolve,invoke,builtin,hx,h1]
end
end
structure aP where
 kind:Int
 client:List UInt8
 seq:Int
 id:Int
 topic:List UInt8
 body:List UInt8
 qos:Int
 retain:Bool
 stage:Int
def aP.vals(r:aP):Array Value:=#[.int .i64 r.kind,.string ⟨r.client.toArray⟩,.int .i64 r.seq,.int .i64 r.id,.string ⟨r.topic.toArray⟩,.string ⟨r.body.toArray⟩,.int .i64 r.qos,.bool r.retain,.int .i64 r.stage]
theorem C9(n a b:Int)(w:World):
  Calls prog 247 #[.int .i64 n,.int .i64 a,.int .i64 b] w fun e w'=>e=.returned (.bool (decide (a<=n)&&decide (n<=b)))/\w=w':=by
 by_cases h:a<=n
 ·go_enter func247,ntmps247;go_wp2;go_ret;simp[h]
 have d:decide (a<=n)=false:=decide_eq_false h;go_enter func247,ntmps247;go_wp2;go_ret;simp[d]
def cN(s:List UInt8):Bool:= !s.isEmpty&&decide (s.length<=23)&&decide (cr s= -1)
theorem Da(s:List UInt8)(w:World)(hs:s.length<=9223372036854775807):
  Calls prog 246 #[.string ⟨s.toArray⟩] w fun e w'=>e=.returned (.bool (cN s))/\Below w.heap.size w w':=by
 have hsz:ByteArray.size ⟨s.toArray⟩=s.length:=by simp[ByteArray.size]
 have fin:∀b:Bool,cN s=b->Ending.returned (.bool b)=.returned (.bool (cN s)):=fun b h=>by rw[h]
 have HF:=af fin;clear fin;by_cases h0:s=[]
 ·subst h0;go_enter func246,ntmps246;go_wp2;go_ret;exact⟨HF _ rfl,Below.refl _ _⟩
 have e0:((⟨s.toArray⟩:ByteArray).toList==(⟨#[]⟩:ByteArray).toList)=false:=by rw[ByteArray.toList_eq,ByteArray.toList_eq];simpa using h0
 have e1:s.isEmpty=false:=by cases s<;>simp at h0 ⊢
 have NW:=af h0;clear h0;by_cases h1:s.length<=23
 ·have CC:=af (rC s w (by omega));by_cases hw:cr s= -1
  ·rw[show iF s=0 by unfold iF;rw[hw];rfl]at CC;have HB:=af (show cN s=true by unfold cN;rw[e1,hw];simp[h1]);clear hw;go_enter func246,ntmps246;go_wp2_with (go_at_call 241;refine CC.mono ?_;rintro e w1 ⟨rfl,hb⟩)
   go_ret;exact⟨HF _ HB.out,hb⟩
  rw[show iF s=220 by unfold iF;rw[if_pos (by have:=nO s;omega)]]at CC;have HB:=af (show cN s=false by unfold cN;rw[e1];simp[hw]);clear hw;go_enter func246,ntmps246;go_wp2_with (go_at_call 241;refine CC.mono ?_;rintro e w1 ⟨rfl,hb⟩)
  go_ret;exact⟨HF _ HB.out,hb⟩
 have d1:decide ((s.length:Int)<=23)=false:=decide_eq_false (by omega);have HB:=af (show cN s=false by unfold cN;rw[e1];simp[h1]);clear h1;go_enter func246,ntmps246;go_wp2;go_ret;exact⟨HF _ HB.out,Below.refl _ _⟩
def uC(s:List UInt8)(a b c:Nat)(p:Bool):Value:=.agg #[.string ⟨s.toArray⟩,.func (.func a) #[] #[],.func (.func b) #[] #[],.func (.func c) #[] #[],.bool p]
def oZ:Array MapEntry:=#[
 {key:=.int .i64 1,val:=uC [115,101,115,115,105,111,110] 245 248 249 false,born:=0},
 {key:=.int .i64 2,val:=uC [115,117,98] 251 252 253 true,born:=1},
 {key:=.int .i64 3,val:=uC [111,117,116] 255 256 257 false,born:=2},
 {key:=.int .i64 4,val:=uC [105,110] 259 260 261 false,born:=3},
 {key:=.int .i64 5,val:=uC [114,101,116,97,105,110] 262 263 264 true,born:=4}]
theorem GZ(w:World):
  Calls prog 223 #[] w fun e w'=>e=.returned (.map (some w.heap.size))/\w'.heap[w.heap.size]?=some (.map oZ 5)/\Below w.heap.size w w':=by
 have Fa:= @run_makeMap prog;have hb0:(w.alloc (.map #[] 0)).heap[w.heap.size]?=some (.map #[] 0):=by show(w.heap.push _)[w.heap.size]?=_;simp
 have B0:Below w.heap.size w (w.alloc (.map #[] 0)):=(Below.refl _ w).alloc ah _;go_enter func223,ntmps223;go_wp2_with (refine qd _ rfl _ _ _ 262 rfl 133 260 .i64 underlying262 underlying133 _ _ _ rfl (by with_reducible assumption) _ _ rfl rfl (by simp[NV]) ?_;intro w1 hb1 hg1;replace B0:=B0.grown hg1 B0.size (fun k hk=>by cases hk;exact Nat.le_refl _);clear hg1)
 go_ret;refine⟨rfl,?_,B0⟩;rw[hb1];rfl
theorem NY(r:Int)(w:World):
  Calls prog 296 #[.int .i32 r] w fun e w'=>e=.returned (.bool (ia r))/\w=w':=by
 have fin:∀b:Bool,ia r=b->Ending.returned (.bool b)=.returned (.bool (ia r)):=fun b h=>by rw[h]
 have HF:=af fin;clear fin;by_cases h1:0<=r
 ·by_cases h3:r<55296
  ·go_enter func296,ntmps296;go_wp2
   all_goals (go_ret;exact⟨HF _ (by simp[ia];omega),rfl⟩)
  have d1:decide (r<55296)=false:=decide_eq_false h3;by_cases h4:57343<r
  ·by_cases h2:r<=1114111
   ·go_enter func296,ntmps296;go_wp2
    all_goals (go_ret;exact⟨HF _ (by simp[ia];omega),rfl⟩)
   have d2:decide (r<=1114111)=false:=decide_eq_false h2;go_enter func296,ntmps296;go_wp2
   all_goals (go_ret;exact⟨HF _ (by simp[ia];omega),rfl⟩)
  have d3:decide (57343<r)=false:=decide_eq_false h4;go_enter func296,ntmps296;go_wp2
  all_goals (go_ret;exact⟨HF _ (by simp[ia];omega),rfl⟩)
 have d4:decide (0<=r)=false:=decide_eq_false h1;have d5:decide (57343<r)=false:=decide_eq_false (by omega);go_enter func296,ntmps296;go_wp2
 all_goals (go_ret;exact⟨HF _ (by simp[ia];omega),rfl⟩)
theorem x9(k:Int)(w:World)(h0:0<=k)(hk:k<=1114111):
  Calls prog 323 #[.int .i64 k] w fun e w'=>e=.returned (.int .u8 (128+k%64))/\w=w':=by
 go_enter func323,ntmps323;go_wp2;go_ret;exact⟨rfl,rfl⟩
theorem lU(l:List UInt8)(cs:List Value)(h:cs=bs l)(n:Nat)(hn:cs.length=n)(W:World)(hl:n<=1000):(convert 22 9 (.slice (some ⟨W.heap.size,0,none⟩) n n)).run prog (W.alloc (.cells cs.toArray 5))=.ok (.string ⟨l.toArray⟩) (W.alloc (.cells cs.toArray 5)):=by subst hn h;have h1:=ax.new W (bs l).toArray 5 (0,0) (by unfold maxLen;simp;omega);simp only[List.size_toArray,List.toList_toArray]at h1;exact dX h1
theorem NZ(m:Nat)(h:m<128):[Value.int .u8 (m:Int)]=bs (cM m):=by
 have he:cM m=[b8 m]:=by unfold cM;rw[if_pos h]
 rw[he];simp only[bs,List.map_cons,List.map_nil,dZ m (by omega)]
theorem N0(m:Nat)(h:¬m<128)(h2:m<2048):[Value.int .u8 (192+(m:Int) / 64),.int .u8 (128+(m:Int)%64)]=bs (cM m):=by
 have he:cM m=[b8 (192+m / 64),b8 (128+m%64)]:=by unfold cM;rw[if_neg h,if_pos h2]
 rw[he];simp only[bs,List.map_cons,List.map_nil,dZ (192+m / 64) (by omega),dZ (128+m%64) (by omega)];rfl
theorem N1(m:Nat)(h:¬m<2048)(h2:m<65536):[Value.int .u8 (224+(m:Int) / 4096),.int .u8 (128+(m:Int) / 64%64),.int .u8 (128+(m:Int)%64)]=bs (cM m):=by
 have he:cM m=[b8 (224+m / 4096),b8 (128+m / 64%64),b8 (128+m%64)]:=by unfold cM;rw[if_neg (by omega),if_neg h,if_pos h2]
 rw[he];simp only[bs,List.map_cons,List.map_nil,dZ (224+m / 4096) (by omega),dZ (128+m / 64%64) (by omega),dZ (128+m%64) (by omega)];rfl
theorem N2(m:Nat)(h:¬m<65536)(h2:m<=1114111):[Value.int .u8 (240+(m:Int) / 262144),.int .u8 (128+(m:Int) / 4096%64),.int .u8 (128+(m:Int) / 64%64),.int .u8 (128+(m:Int)%64)]=bs (cM m):=by
 have he:cM m=[b8 (240+m / 262144),b8 (128+m / 4096%64),b8 (128+m / 64%64),b8 (128+m%64)]:=by unfold cM;rw[if_neg (by omega),if_neg (by omega),if_neg h]
 rw[he];simp only[bs,List.map_cons,List.map_nil,dZ (240+m / 262144) (by omega),dZ (128+m / 4096%64) (by omega),dZ (128+m / 64%64) (by omega),dZ (128+m%64) (by omega)];rfl
theorem tH(m:Nat)(w:World)(hm:m<=1114111):
  Calls prog 297 #[.int .i32 m] w fun e w'=>e=.returned (.string ⟨(cM m).toArray⟩)/\Below w.heap.size w w':=by
 have hb:∀o,Below w.heap.size w (w.alloc o):=fun o=>(Below.refl _ w).alloc ah o;have HB:=af hb;clear hb;obtain⟨z,hz⟩:∃z:Int,z=m:=⟨_,rfl⟩;rw[<-hz];have HZ:=af hz;have z0:0<=z:=by omega
 have z1:z<=1114111:=by omega
 by_cases h1:m<128
 ·have hcv:=fun W=>lU (cM m) _ (NZ m h1) 1 rfl W (by omega);rw[<-hz]at hcv;have y1:z<128:=by omega
  clear hz hm h1;go_enter func297,ntmps297;go_wp2;go_ret;exact⟨rfl,HB _⟩
 by_cases h2:m<2048
 ·have hcv:=fun W=>lU (cM m) _ (N0 m h1 h2) 2 rfl W (by omega);rw[<-hz]at hcv;have y1:128<=z:=by omega
  have y2:z<2048:=by omega
  clear hz hm h1 h2;go_enter func297,ntmps297;go_wp2_with (go_at_call 323;refine(x9 _ _ (by omega) (by omega)).mono ?_;rintro e w' ⟨rfl,rfl⟩)
  go_ret;exact⟨rfl,HB _⟩
 by_cases h3:m<65536
 ·have hcv:=fun W=>lU (cM m) _ (N1 m h2 h3) 3 rfl W (by omega);rw[<-hz]at hcv;have y1:2048<=z:=by omega
  have y2:z<65536:=by omega
  clear hz hm h1 h2 h3;go_enter func297,ntmps297;go_wp2_with (go_at_call 323;refine(x9 _ _ (by omega) (by omega)).mono ?_;rintro e w' ⟨rfl,rfl⟩)
  go_ret;exact⟨rfl,HB _⟩
 have hcv:=fun W=>lU (cM m) _ (N2 m h3 hm) 4 rfl W (by omega);rw[<-hz]at hcv;have y1:65536<=z:=by omega
 clear hz hm h1 h2 h3;go_enter func297,ntmps297;go_wp2_with (go_at_call 323;refine(x9 _ _ (by omega) (by omega)).mono ?_;rintro e w' ⟨rfl,rfl⟩)
 go_ret;exact⟨rfl,HB _⟩
theorem N3(x y:List UInt8):(⟨x.toArray⟩:ByteArray)++⟨y.toArray⟩=⟨(x++y).toArray⟩:=by apply ByteArray.ext;simp
def ya(s:List UInt8):Bool:=Go.Lib.containsAny s [43,35]
def J9(s:List UInt8):Prop:=∀w,Calls prog 192 #[.string ⟨s.toArray⟩,.string ⟨#[43,35]⟩] w fun e w'=>e=.returned (.bool (ya s))/\Below w.heap.size w w'
def dp(s:List UInt8):Bool:= !s.isEmpty&&decide (s.length<=200)&&decide (cr s= -1)
def en(s:List UInt8):Bool:=dp s&& !ya s
theorem uD(s:List UInt8)(w:World)(hs:s.length<=9223372036854775807):
  Calls prog 193 #[.string ⟨s.toArray⟩] w fun e w'=>e=.returned (.bool (dp s))/\Below w.heap.size w w':=by
 have hsz:ByteArray.size ⟨s.toArray⟩=s.length:=by simp[ByteArray.size]
 have fin:∀b:Bool,dp s=b->Ending.returned (.bool b)=.returned (.bool (dp s)):=fun b h=>by rw[h]
 have HF:=af fin;clear fin;by_cases h0:s=[]
 ·subst h0;go_enter func193,ntmps193;go_wp2;go_ret;exact⟨HF _ rfl,Below.refl _ _⟩
 have e0:((⟨s.toArray⟩:ByteArray).toList==(⟨#[]⟩:ByteArray).toList)=false:=by rw[ByteArray.toList_eq,ByteArray.toList_eq];simpa using h0
 have e1:s.isEmpty=false:=by cases s<;>simp at h0 ⊢
 have NW:=af h0;clear h0;by_cases h1:s.length<=200
 ·have CC:=af (rC s w (by omega));by_cases hw:cr s= -1
  ·rw[show iF s=0 by unfold iF;rw[hw];rfl]at CC;have HB:=af (show dp s=true by unfold dp;rw[e1,hw];simp[h1]);clear hw;go_enter func193,ntmps193;go_wp2_with (go_at_call 241;refine CC.mono ?_;rintro e w1 ⟨rfl,hb⟩)
   go_ret;exact⟨HF _ HB.out,hb⟩
  rw[show iF s=220 by unfold iF;rw[if_pos (by have:=nO s;omega)]]at CC;have HB:=af (show dp s=false by unfold dp;rw[e1];simp[hw]);clear hw;go_enter func193,ntmps193;go_wp2_with (go_at_call 241;refine CC.mono ?_;rintro e w1 ⟨rfl,hb⟩)
  go_ret;exact⟨HF _ HB.out,hb⟩
 have d1:decide ((s.length:Int)<=200)=false:=decide_eq_false (by omega);have HB:=af (show dp s=false by unfold dp;rw[e1];simp[h1]);clear h1;go_enter func193,ntmps193;go_wp2;go_ret;exact⟨HF _ HB.out,Below.refl _ _⟩
theorem uE(s:List UInt8)(w:World)(hs:s.length<=9223372036854775807)(hA:J9 s):
  Calls prog 198 #[.string ⟨s.toArray⟩] w fun e w'=>e=.returned (.bool (en s))/\Below w.heap.size w w':=by
 have fin:∀b:Bool,en s=b->Ending.returned (.bool b)=.returned (.bool (en s)):=fun b h=>by rw[h]
 have HF:=af fin;clear fin;have CS:=af (uD s w hs);have HA:=af hA;clear hA;have HN:=af (show en s=(dp s&& !ya s)from rfl);cases hq:dp s
 ·rw[hq]at CS HN;clear hq;go_enter func198,ntmps198;go_wp2_with (go_at_call 193;refine CS.mono ?_;rintro e w1 ⟨rfl,hb⟩)
  go_ret;exact⟨HF _ HN.out,hb⟩
 rw[hq]at CS HN;clear hq;have HM:=af (show en s= !ya s by rw[HN.out];rfl);go_enter func198,ntmps198;go_wp2_with (first | (go_at_call 193;refine CS.mono ?_;rintro e w1 ⟨rfl,hb⟩) | (go_at_call 192;refine(HA _).mono ?_;rintro e w2 ⟨rfl,hb2⟩))
 go_ret;refine⟨HF _ ?_,hb.trans (hb2.mono hb.size)⟩;rw[HM.out]
def qg(k:Nat):Int:=if k=1 then 128 else if k=2 then 224 else if k=3 then 240 else 248
def oD(k:Nat):Int:=if k=1 then 0 else if k=2 then 192 else if k=3 then 224 else 240
theorem Db(v:Nat)(h:v<=1114111):∃y:Nat,(cM v)[0]?=some (b8 y)/\y<256/\oD (gF v)<=y/\y<qg (gF v):=by
 unfold cM gF oD qg;by_cases h1:v<128
 ·exact⟨v,by simp[h1],by omega,by simp[h1],by simp[h1];omega⟩
 by_cases h2:v<2048
 ·exact⟨192+v / 64,by simp[h1,h2],by omega,by simp[h1,h2];omega,by simp[h1,h2];omega⟩
 by_cases h3:v<65536
 ·exact⟨224+v / 4096,by simp[h1,h2,h3],by omega,by simp[h1,h2,h3];omega,by simp[h1,h2,h3];omega⟩
 exact⟨240+v / 262144,by simp[h1,h2,h3],by omega,by simp[h1,h2,h3];omega,by simp[h1,h2,h3];omega⟩
theorem Ka(k:Nat)(s:List UInt8)(h:tX k s=true):oD k<=iD s 0/\(iD s 0:Int)<qg k:=by
 obtain⟨h1,h2,h3,h4⟩:=(jh k s).1 h;have h5:=ES h;have h6:=(jH _).1 h3;obtain⟨y,g1,g2,g3,g4⟩:=Db (ie k s) (by omega);rw[h5]at g3 g4;have hk:=(xS (ie k s)).1;rw[h5]at hk;rw[h4,List.getElem?_take_of_lt (by omega)]at g1;have h7:iD s 0=y:=by unfold iD;rw[g1];exact dZ y g2
 rw[h7];exact⟨g3,g4⟩
theorem G0(k:Nat)(s:List UInt8)(h1:1<=k)(h4:k<=4)(hl:oD k<=iD s 0)(hm:(iD s 0:Int)<qg k):(iD s 0:Int)-oD k=gG k s 0:=by
 unfold oD qg at*
 simp only[gG,RG];rcases(show k=1\/k=2\/k=3\/k=4 by omega)with rfl | rfl | rfl | rfl<;>simp at hl hm ⊢<;>omega
theorem lV(r:Int)(b:Bool)(h:ia r=b)(w:World):Calls prog 296 #[.int .i32 r] w fun e w'=>e=.returned (.bool b)/\w=w':=h▸NY r w
theorem nP(k:Nat)(s:List UInt8)(h1:1<=k)(h4:k<=4)(hno:∀j,1<=j->j<k->tX j s=false)(h:tX k s=true):aU s=(ie k s,k):=by
 unfold aU;rcases(show k=1\/k=2\/k=3\/k=4 by omega)with rfl | rfl | rfl | rfl
 ·simp[h]
 ·simp[h,hno 1]
 ·simp[h,hno 1,hno 2]
 simp[h,hno 1,hno 2,hno 3]
theorem G1(s:List UInt8)(w:World)(hs:s.length<=140737488355328):
  Calls prog 278 #[.string ⟨s.toArray⟩] w fun e w'=>e=.returned (.tuple #[.int .i32 (aU s).1,.int .i64 (aU s).2])/\Below w.heap.size w w':=by
 have hsz:ByteArray.size ⟨s.toArray⟩=s.length:=by simp[ByteArray.size]
 go_enter func278,ntmps278;go_wp2;go_loopw [4,5,6,7,8,9] (fun n _ _ _ _ _ wr=>∃(k:Nat),1<=k/\k<=5/\n=.int .i64 k/\Hid (∀j,1<=j->j<k->tX j s=false)/\Below w.heap.size w wr) (fun n _ _ _ _ _ _=>5-(intOf n).toNat)
 case atStart=>exact⟨1,by omega,by omega,rfl,fun j h1 h2=>by omega,Below.refl _ _⟩
 case round=>
  obtain⟨k,gW,UX,rfl,hj,bK⟩:=hrel;by_cases cd:k<=4/\k<=s.length
  ·obtain⟨hk4,hlen⟩:=cd;have hx0:∀W,(Instr.index 9 (.string ⟨s.toArray⟩) (.int .i64 0)).run prog W=.ok (.int .u8 (iD s 0)) W:=fun W=>nM s 0 (by omega) W;obtain⟨z,hz⟩:∃z:Int,z=iD s 0:=⟨_,rfl⟩;rw[<-hz]at hx0;have z0:0<=z:=by omega
   have z1:z<256:=by have:=jI s 0;omega
   have HZ:=af hz;clear hz;have next:tX k s=false->∀j,1<=j->j<k+1->tX j s=false:=fun h j h1 h2=>by
    rcases Nat.lt_or_ge j k with h3 | h3
    ·exact hj.out j h1 h3
    obtain rfl:j=k:=by omega
    exact h
   have NX:=af next;clear next;have OL:=af (Ka k s)
   have AZ:=af (G0 k s gW hk4);rw[<-HZ.out]at OL AZ;have RL:(((k:Int)==2)=false/\((k:Int)==3)=false/\((k:Int)==4)=false/\oD k=0/\qg k=128)\/
     (((k:Int)==2)=true/\((k:Int)==3)=false/\((k:Int)==4)=false/\oD k=192/\qg k=224)\/
     (((k:Int)==2)=false/\((k:Int)==3)=true/\((k:Int)==4)=false/\oD k=224/\qg k=240)\/
     (((k:Int)==2)=false/\((k:Int)==3)=false/\((k:Int)==4)=true/\oD k=240/\qg k=248):=by
    rcases(show k=1\/k=2\/k=3\/k=4 by omega)with rfl | rfl | rfl | rfl
    ·exact .inl ⟨rfl,rfl,rfl,rfl,rfl⟩
    ·exact .inr (.inl ⟨rfl,rfl,rfl,rfl,rfl⟩)
    ·exact .inr (.inr (.inl ⟨rfl,rfl,rfl,rfl,rfl⟩))
    exact .inr (.inr (.inr ⟨rfl,rfl,rfl,rfl,rfl⟩))
   rcases RL with⟨e2,e3,e4,hL,hM⟩ | ⟨e2,e3,e4,hL,hM⟩ | ⟨e2,e3,e4,hL,hM⟩ | ⟨e2,e3,e4,hL,hM⟩
   all_goals
    rw[hL]at OL AZ;rw[hM]at OL AZ;clear hL hM
   ·have d1:decide (z<0)=false:=decide_eq_false (by omega);by_cases c2:128<=z
    ·have d2:decide (128<=z)=true:=decide_eq_true c2;go_wp2;go_roundw
     case rel=>exact⟨k+1,by omega,by omega,by go_num,NX (Bool.eq_false_iff.2 fun h=>by have:=OL h;omega),bK⟩
     case measure=>simp[intOf];omega
    have d2:decide (128<=z)=false:=decide_eq_false c2;have HQ:=af (AZ (by omega) (by omega));clear AZ OL;go_wp2;go_loop [8,9] (fun r i=>∃(j:Nat)(q:Int),1<=j/\j<=k/\i=.int .i64 j/\r=.int .i32 q/\0<=q/\q<67108864/\Hid (q=gG k s (j-1))) (fun _ i=>k-(intOf i).toNat)
    case atStart=>exact⟨1,z,by omega,gW,rfl,rfl,by omega,by omega,af (by have:=HQ.out;simpa using this)⟩
    case round=>
     obtain⟨j,q,GK,hjk,rfl,rfl,oF,x5,HA⟩:=hrel;clear hx0 e2 e3 e4 d1 d2;by_cases vW:j<k
     ·have hx:∀W,(Instr.index 9 (.string ⟨s.toArray⟩) (.int .i64 j)).run prog W=.ok (.int .u8 (iD s j)) W:=fun W=>nM s j (by omega) W;have hv2:=nN k s j (by omega);have mN:gG k s j=gG k s (j-1)*64+iD s j%64:=by obtain⟨j',rfl⟩:∃j',j=j'+1:=⟨j-1,by omega⟩;rfl
      obtain⟨y,hy⟩:∃y:Int,y=iD s j:=⟨_,rfl⟩;rw[<-hy]at hx;have y0:0<=y:=by omega
      have y1:y<256:=by have:=jI s j;omega
      have wo:64*q+y%64<67108864:=by have:=HA.out;omega
      have HN:=af (show 64*q+y%64=gG k s (j+1-1) by rw[Nat.add_sub_cancel];have:=HA.out;omega);clear hy mN hv2;go_wp2
      go_round
      case rel=>exact⟨j+1,64*q+y%64,by omega,by omega,by go_num,rfl,by omega,wo,HN.out⟩
      case measure=>simp[intOf];omega
     obtain rfl:j=k:=by omega
     clear HQ HZ;have qZ:q=(ie j s:Int):=by rw[HA.out,mU j s GK hk4]
     clear HA;have jA:=jh j s;have Qg:=pW j s;generalize oX:ie j s=v at*
     have HV:=af oX;clear oX;have CR:=af (fun W h=>tH v W h);rw[<-qZ]at CR;have CM:=af (fun b (h:ia q=b) W=>lV q b h W);have NS:=fun W=>ur s j hlen W;have HK:=af jA;have rD:=af qZ;clear jA qZ Qg;by_cases hq:q=0
     ·have dq:decide (0<q)=false:=decide_eq_false (by omega);have RM:=af hq;clear hq;go_wp2;refine aH [] (by kernel_rfl) trivial fun KQ aL=>?_;refine tQ [0,1,2] ?_;refine uQ 3 ?_;refine uQ 4 ?_;refine tQ [5,6] ?_;refine uQ 7 ?_;refine uQ 8 ?_;refine uQ 9 ?_;refine uQ 10 ?_;refine uQ 11 ?_;refine uQ 12 ?_;refine tQ [13] ?_;refine dQ (aL.out _ _ ?_);clear aL KQ;go_wp2;go_roundw
      case rel=>exact⟨j+1,by omega,by omega,by go_num,NX (Bool.eq_false_iff.2 fun h=>(HK.1 h).2.1 (by have:=rD.out;have:=RM.out;omega)),bK.drew⟩
      case measure=>simp[intOf];omega
     have dq:decide (0<q)=true:=decide_eq_true (by omega);go_wp2;refine aH [] (by kernel_rfl) trivial fun KQ aL=>?_;refine tQ [0,1,2,3] ?_;refine sN 4 fun K hK=>?_;simp only[GO];go_simp;cases qa:ia q
     ·refine(CM _ qa _).mono ?_;rintro e w5 ⟨rfl,rfl⟩;refine hK _ _ ?_;clear hK K;try simp only[PT]
      refine tQ [5,6] ?_;refine uQ 7 ?_;refine uQ 8 ?_;refine uQ 9 ?_;refine uQ 10 ?_;refine uQ 11 ?_;refine uQ 12 ?_;refine tQ [13] ?_;refine dQ (aL.out _ _ ?_);clear aL KQ;go_wp2;go_roundw
      case rel=>exact⟨j+1,by omega,by omega,by go_num,NX (Bool.eq_false_iff.2 fun h=>by have h1:=(HK.1 h).2.2.1;rw[<-rD.out,qa]at h1;cases h1),bK.drew⟩
      case measure=>simp[intOf];omega
     refine(CM _ qa _).mono ?_;rintro e w5 ⟨rfl,rfl⟩;refine hK _ _ ?_;clear hK K;try simp only[PT]
     refine tQ [5,6,7,9,10,11] ?_;refine sN 8 fun K hK=>?_;simp only[GO];go_simp;refine(CR _ (by have:=(jH q).1 qa;have:=rD.out;omega)).mono ?_;rintro e w6 ⟨rfl,fj⟩;have ku:=bK.drew.trans (fj.mono bK.drew.size);refine hK _ _ ?_;clear hK K;try simp only[PT]
     by_cases hE:cM v=s.take j
     ·rw[hE];refine tQ [12,13] ?_;refine dQ (aL.out _ _ ?_);clear aL KQ;go_wp2;refine bodyPost_ret (v:=.tuple #[.int .i32 q,.int .i64 j]) (by simp[results,results278,go_sem]) rfl ⟨?_,ku⟩;have sV:tX j s=true:=HK.2 ⟨hlen,by have:=rD.out;omega,by rw[<-rD.out];exact qa,hE⟩;rw[nP j s gW hk4 hj.out sV,HV.out,rD.out]
     have Ze:((⟨(cM v).toArray⟩:ByteArray).toList==(⟨(s.take j).toArray⟩:ByteArray).toList)=false:=by rw[ByteArray.toList_eq,ByteArray.toList_eq];simpa using hE
     have Zf:(cM v==s.take j)=false:=by simpa using hE
     refine tQ [12,13] ?_;refine dQ (aL.out _ _ ?_);clear aL KQ;go_wp2;go_roundw
     case rel=>exact⟨j+1,by omega,by omega,by go_num,NX (Bool.eq_false_iff.2 fun h=>hE (HK.1 h).2.2.2),ku⟩
     case measure=>simp[intOf];omega
   ·by_cases c1:z<192
    ·have d1:decide (z<192)=true:=decide_eq_true c1;go_wp2;go_roundw
     case rel=>exact⟨k+1,by omega,by omega,by go_num,NX (Bool.eq_false_iff.2 fun h=>by have:=OL h;omega),bK⟩
     case measure=>simp[intOf];omega
    have d1:decide (z<192)=false:=decide_eq_false c1;by_cases c2:224<=z
    ·have d2:decide (224<=z)=true:=decide_eq_true c2;go_wp2;go_roundw
     case rel=>exact⟨k+1,by omega,by omega,by go_num,NX (Bool.eq_false_iff.2 fun h=>by have:=OL h;omega),bK⟩
     case measure=>simp[intOf];omega
    have d2:decide (224<=z)=false:=decide_eq_false c2;have HQ:=af (AZ (by omega) (by omega));clear AZ OL;go_wp2;go_loop [8,9] (fun r i=>∃(j:Nat)(q:Int),1<=j/\j<=k/\i=.int .i64 j/\r=.int .i32 q/\0<=q/\q<67108864/\Hid (q=gG k s (j-1))) (fun _ i=>k-(intOf i).toNat)
    case atStart=>exact⟨1,z-192,by omega,gW,rfl,rfl,by omega,by omega,af (by have:=HQ.out;simpa using this)⟩
    case round=>
     obtain⟨j,q,GK,hjk,rfl,rfl,oF,x5,HA⟩:=hrel;clear hx0 e2 e3 e4 d1 d2;by_cases vW:j<k
     ·have hx:∀W,(Instr.index 9 (.string ⟨s.toArray⟩) (.int .i64 j)).run prog W=.ok (.int .u8 (iD s j)) W:=fun W=>nM s j (by omega) W;have hv2:=nN k s j (by omega);have mN:gG k s j=gG k s (j-1)*64+iD s j%64:=by obtain⟨j',rfl⟩:∃j',j=j'+1:=⟨j-1,by omega⟩;rfl
      obtain⟨y,hy⟩:∃y:Int,y=iD s j:=⟨_,rfl⟩;rw[<-hy]at hx;have y0:0<=y:=by omega
      have y1:y<256:=by have:=jI s j;omega
      have wo:64*q+y%64<67108864:=by have:=HA.out;omega
      have HN:=af (show 64*q+y%64=gG k s (j+1-1) by rw[Nat.add_sub_cancel];have:=HA.out;omega);clear hy mN hv2;go_wp2
      go_round
      case rel=>exact⟨j+1,64*q+y%64,by omega,by omega,by go_num,rfl,by omega,wo,HN.out⟩
      case measure=>simp[intOf];omega
     obtain rfl:j=k:=by omega
     clear HQ HZ;have qZ:q=(ie j s:Int):=by rw[HA.out,mU j s GK hk4]
     clear HA;have jA:=jh j s;have Qg:=pW j s;generalize oX:ie j s=v at*
     have HV:=af oX;clear oX;have CR:=af (fun W h=>tH v W h);rw[<-qZ]at CR;have CM:=af (fun b (h:ia q=b) W=>lV q b h W);have NS:=fun W=>ur s j hlen W;have HK:=af jA;have rD:=af qZ;clear jA qZ Qg;by_cases hq:q=0
     ·have dq:decide (0<q)=false:=decide_eq_false (by omega);have RM:=af hq;clear hq;go_wp2;refine aH [] (by kernel_rfl) trivial fun KQ aL=>?_;refine tQ [0,1,2] ?_;refine uQ 3 ?_;refine uQ 4 ?_;refine tQ [5,6] ?_;refine uQ 7 ?_;refine uQ 8 ?_;refine uQ 9 ?_;refine uQ 10 ?_;refine uQ 11 ?_;refine uQ 12 ?_;refine tQ [13] ?_;refine dQ (aL.out _ _ ?_);clear aL KQ;go_wp2;go_roundw
      case rel=>exact⟨j+1,by omega,by omega,by go_num,NX (Bool.eq_false_iff.2 fun h=>(HK.1 h).2.1 (by have:=rD.out;have:=RM.out;omega)),bK.drew⟩
      case measure=>simp[intOf];omega
     have dq:decide (0<q)=true:=decide_eq_true (by omega);go_wp2;refine aH [] (by kernel_rfl) trivial fun KQ aL=>?_;refine tQ [0,1,2,3] ?_;refine sN 4 fun K hK=>?_;simp only[GO];go_simp;cases qa:ia q
     ·refine(CM _ qa _).mono ?_;rintro e w5 ⟨rfl,rfl⟩;refine hK _ _ ?_;clear hK K;try simp only[PT]
      refine tQ [5,6] ?_;refine uQ 7 ?_;refine uQ 8 ?_;refine uQ 9 ?_;refine uQ 10 ?_;refine uQ 11 ?_;refine uQ 12 ?_;refine tQ [13] ?_;refine dQ (aL.out _ _ ?_);clear aL KQ;go_wp2;go_roundw
      case rel=>exact⟨j+1,by omega,by omega,by go_num,NX (Bool.eq_false_iff.2 fun h=>by have h1:=(HK.1 h).2.2.1;rw[<-rD.out,qa]at h1;cases h1),bK.drew⟩
      case measure=>simp[intOf];omega
     refine(CM _ qa _).mono ?_;rintro e w5 ⟨rfl,rfl⟩;refine hK _ _ ?_;clear hK K;try simp only[PT]
     refine tQ [5,6,7,9,10,11] ?_;refine sN 8 fun K hK=>?_;simp only[GO];go_simp;refine(CR _ (by have:=(jH q).1 qa;have:=rD.out;omega)).mono ?_;rintro e w6 ⟨rfl,fj⟩;have ku:=bK.drew.trans (fj.mono bK.drew.size);refine hK _ _ ?_;clear hK K;try simp only[PT]
     by_cases hE:cM v=s.take j
     ·rw[hE];refine tQ [12,13] ?_;refine dQ (aL.out _ _ ?_);clear aL KQ;go_wp2;refine bodyPost_ret (v:=.tuple #[.int .i32 q,.int .i64 j]) (by simp[results,results278,go_sem]) rfl ⟨?_,ku⟩;have sV:tX j s=true:=HK.2 ⟨hlen,by have:=rD.out;omega,by rw[<-rD.out];exact qa,hE⟩;rw[nP j s gW hk4 hj.out sV,HV.out,rD.out]
     have Ze:((⟨(cM v).toArray⟩:ByteArray).toList==(⟨(s.take j).toArray⟩:ByteArray).toList)=false:=by rw[ByteArray.toList_eq,ByteArray.toList_eq];simpa using hE
     have Zf:(cM v==s.take j)=false:=by simpa using hE
     refine tQ [12,13] ?_;refine dQ (aL.out _ _ ?_);clear aL KQ;go_wp2;go_roundw
     case rel=>exact⟨j+1,by omega,by omega,by go_num,NX (Bool.eq_false_iff.2 fun h=>hE (HK.1 h).2.2.2),ku⟩
     case measure=>simp[intOf];omega
   ·by_cases c1:z<224
    ·have d1:decide (z<224)=true:=decide_eq_true c1;go_wp2;go_roundw
     case rel=>exact⟨k+1,by omega,by omega,by go_num,NX (Bool.eq_false_iff.2 fun h=>by have:=OL h;omega),bK⟩
     case measure=>simp[intOf];omega
    have d1:decide (z<224)=false:=decide_eq_false c1;by_cases c2:240<=z
    ·have d2:decide (240<=z)=true:=decide_eq_true c2;go_wp2;go_roundw
     case rel=>exact⟨k+1,by omega,by omega,by go_num,NX (Bool.eq_false_iff.2 fun h=>by have:=OL h;omega),bK⟩
     case measure=>simp[intOf];omega
    have d2:decide (240<=z)=false:=decide_eq_false c2;have HQ:=af (AZ (by omega) (by omega));clear AZ OL;go_wp2;go_loop [8,9] (fun r i=>∃(j:Nat)(q:Int),1<=j/\j<=k/\i=.int .i64 j/\r=.int .i32 q/\0<=q/\q<67108864/\Hid (q=gG k s (j-1))) (fun _ i=>k-(intOf i).toNat)
    case atStart=>exact⟨1,z-224,by omega,gW,rfl,rfl,by omega,by omega,af (by have:=HQ.out;simpa using this)⟩
    case round=>
     obtain⟨j,q,GK,hjk,rfl,rfl,oF,x5,HA⟩:=hrel;clear hx0 e2 e3 e4 d1 d2;by_cases vW:j<k
     ·have hx:∀W,(Instr.index 9 (.string ⟨s.toArray⟩) (.int .i64 j)).run prog W=.ok (.int .u8 (iD s j)) W:=fun W=>nM s j (by omega) W;have hv2:=nN k s j (by omega);have mN:gG k s j=gG k s (j-1)*64+iD s j%64:=by obtain⟨j',rfl⟩:∃j',j=j'+1:=⟨j-1,by omega⟩;rfl
      obtain⟨y,hy⟩:∃y:Int,y=iD s j:=⟨_,rfl⟩;rw[<-hy]at hx;have y0:0<=y:=by omega
      have y1:y<256:=by have:=jI s j;omega
      have wo:64*q+y%64<67108864:=by have:=HA.out;omega
      have HN:=af (show 64*q+y%64=gG k s (j+1-1) by rw[Nat.add_sub_cancel];have:=HA.out;omega);clear hy mN hv2;go_wp2
      go_round
      case rel=>exact⟨j+1,64*q+y%64,by omega,by omega,by go_num,rfl,by omega,wo,HN.out⟩
      case measure=>simp[intOf];omega
     obtain rfl:j=k:=by omega
     clear HQ HZ;have qZ:q=(ie j s:Int):=by rw[HA.out,mU j s GK hk4]
     clear HA;have jA:=jh j s;have Qg:=pW j s;generalize oX:ie j s=v at*
     have HV:=af oX;clear oX;have CR:=af (fun W h=>tH v W h);rw[<-qZ]at CR;have CM:=af (fun b (h:ia q=b) W=>lV q b h W);have NS:=fun W=>ur s j hlen W;have HK:=af jA;have rD:=af qZ;clear jA qZ Qg;by_cases hq:q=0
     ·have dq:decide (0<q)=false:=decide_eq_false (by omega);have RM:=af hq;clear hq;go_wp2;refine aH [] (by kernel_rfl) trivial fun KQ aL=>?_;refine tQ [0,1,2] ?_;refine uQ 3 ?_;refine uQ 4 ?_;refine tQ [5,6] ?_;refine uQ 7 ?_;refine uQ 8 ?_;refine uQ 9 ?_;refine uQ 10 ?_;refine uQ 11 ?_;refine uQ 12 ?_;refine tQ [13] ?_;refine dQ (aL.out _ _ ?_);clear aL KQ;go_wp2;go_roundw
      case rel=>exact⟨j+1,by omega,by omega,by go_num,NX (Bool.eq_false_iff.2 fun h=>(HK.1 h).2.1 (by have:=rD.out;have:=RM.out;omega)),bK.drew⟩
      case measure=>simp[intOf];omega
     have dq:decide (0<q)=true:=decide_eq_true (by omega);go_wp2;refine aH [] (by kernel_rfl) trivial fun KQ aL=>?_;refine tQ [0,1,2,3] ?_;refine sN 4 fun K hK=>?_;simp only[GO];go_simp;cases qa:ia q
     ·refine(CM _ qa _).mono ?_;rintro e w5 ⟨rfl,rfl⟩;refine hK _ _ ?_;clear hK K;try simp only[PT]
      refine tQ [5,6] ?_;refine uQ 7 ?_;refine uQ 8 ?_;refine uQ 9 ?_;refine uQ 10 ?_;refine uQ 11 ?_;refine uQ 12 ?_;refine tQ [13] ?_;refine dQ (aL.out _ _ ?_);clear aL KQ;go_wp2;go_roundw
      case rel=>exact⟨j+1,by omega,by omega,by go_num,NX (Bool.eq_false_iff.2 fun h=>by have h1:=(HK.1 h).2.2.1;rw[<-rD.out,qa]at h1;cases h1),bK.drew⟩
      case measure=>simp[intOf];omega
     refine(CM _ qa _).mono ?_;rintro e w5 ⟨rfl,rfl⟩;refine hK _ _ ?_;clear hK K;try simp only[PT]
     refine tQ [5,6,7,9,10,11] ?_;refine sN 8 fun K hK=>?_;simp only[GO];go_simp;refine(CR _ (by have:=(jH q).1 qa;have:=rD.out;omega)).mono ?_;rintro e w6 ⟨rfl,fj⟩;have ku:=bK.drew.trans (fj.mono bK.drew.size);refine hK _ _ ?_;clear hK K;try simp only[PT]
     by_cases hE:cM v=s.take j
     ·rw[hE];refine tQ [12,13] ?_;refine dQ (aL.out _ _ ?_);clear aL KQ;go_wp2;refine bodyPost_ret (v:=.tuple #[.int .i32 q,.int .i64 j]) (by simp[results,results278,go_sem]) rfl ⟨?_,ku⟩;have sV:tX j s=true:=HK.2 ⟨hlen,by have:=rD.out;omega,by rw[<-rD.out];exact qa,hE⟩;rw[nP j s gW hk4 hj.out sV,HV.out,rD.out]
     have Ze:((⟨(cM v).toArray⟩:ByteArray).toList==(⟨(s.take j).toArray⟩:ByteArray).toList)=false:=by rw[ByteArray.toList_eq,ByteArray.toList_eq];simpa using hE
     have Zf:(cM v==s.take j)=false:=by simpa using hE
     refine tQ [12,13] ?_;refine dQ (aL.out _ _ ?_);clear aL KQ;go_wp2;go_roundw
     case rel=>exact⟨j+1,by omega,by omega,by go_num,NX (Bool.eq_false_iff.2 fun h=>hE (HK.1 h).2.2.2),ku⟩
     case measure=>simp[intOf];omega
   skip;by_cases c1:z<240
   ·have d1:decide (z<240)=true:=decide_eq_true c1;go_wp2;go_roundw
    case rel=>exact⟨k+1,by omega,by omega,by go_num,NX (Bool.eq_false_iff.2 fun h=>by have:=OL h;omega),bK⟩
    case measure=>simp[intOf];omega
   have d1:decide (z<240)=false:=decide_eq_false c1;by_cases c2:248<=z
   ·have d2:decide (248<=z)=true:=decide_eq_true c2;go_wp2;go_roundw
    case rel=>exact⟨k+1,by omega,by omega,by go_num,NX (Bool.eq_false_iff.2 fun h=>by have:=OL h;omega),bK⟩
    case measure=>simp[intOf];omega
   have d2:decide (248<=z)=false:=decide_eq_false c2;have HQ:=af (AZ (by omega) (by omega));clear AZ OL;go_wp2;go_loop [8,9] (fun r i=>∃(j:Nat)(q:Int),1<=j/\j<=k/\i=.int .i64 j/\r=.int .i32 q/\0<=q/\q<67108864/\Hid (q=gG k s (j-1))) (fun _ i=>k-(intOf i).toNat)
   case atStart=>exact⟨1,z-240,by omega,gW,rfl,rfl,by omega,by omega,af (by have:=HQ.out;simpa using this)⟩
   case round=>
    obtain⟨j,q,GK,hjk,rfl,rfl,oF,x5,HA⟩:=hrel;clear hx0 e2 e3 e4 d1 d2;by_cases vW:j<k
    ·have hx:∀W,(Instr.index 9 (.string ⟨s.toArray⟩) (.int .i64 j)).run prog W=.ok (.int .u8 (iD s j)) W:=fun W=>nM s j (by omega) W;have hv2:=nN k s j (by omega);have mN:gG k s j=gG k s (j-1)*64+iD s j%64:=by obtain⟨j',rfl⟩:∃j',j=j'+1:=⟨j-1,by omega⟩;rfl
     obtain⟨y,hy⟩:∃y:Int,y=iD s j:=⟨_,rfl⟩;rw[<-hy]at hx;have y0:0<=y:=by omega
     have y1:y<256:=by have:=jI s j;omega
     have wo:64*q+y%64<67108864:=by have:=HA.out;omega
     have HN:=af (show 64*q+y%64=gG k s (j+1-1) by rw[Nat.add_sub_cancel];have:=HA.out;omega);clear hy mN hv2;go_wp2
     go_round
     case rel=>exact⟨j+1,64*q+y%64,by omega,by omega,by go_num,rfl,by omega,wo,HN.out⟩
     case measure=>simp[intOf];omega
    obtain rfl:j=k:=by omega
    clear HQ HZ;have qZ:q=(ie j s:Int):=by rw[HA.out,mU j s GK hk4]
    clear HA;have jA:=jh j s;have Qg:=pW j s;generalize oX:ie j s=v at*
    have HV:=af oX;clear oX;have CR:=af (fun W h=>tH v W h);rw[<-qZ]at CR;have CM:=af (fun b (h:ia q=b) W=>lV q b h W);have NS:=fun W=>ur s j hlen W;have HK:=af jA;have rD:=af qZ;clear jA qZ Qg;by_cases hq:q=0
    ·have dq:decide (0<q)=false:=decide_eq_false (by omega);have RM:=af hq;clear hq;go_wp2;refine aH [] (by kernel_rfl) trivial fun KQ aL=>?_;refine tQ [0,1,2] ?_;refine uQ 3 ?_;refine uQ 4 ?_;refine tQ [5,6] ?_;refine uQ 7 ?_;refine uQ 8 ?_;refine uQ 9 ?_;refine uQ 10 ?_;refine uQ 11 ?_;refine uQ 12 ?_;refine tQ [13] ?_;refine dQ (aL.out _ _ ?_);clear aL KQ;go_wp2;go_roundw
     case rel=>exact⟨j+1,by omega,by omega,by go_num,NX (Bool.eq_false_iff.2 fun h=>(HK.1 h).2.1 (by have:=rD.out;have:=RM.out;omega)),bK.drew⟩
     case measure=>simp[intOf];omega
    have dq:decide (0<q)=true:=decide_eq_true (by omega);go_wp2;refine aH [] (by kernel_rfl) trivial fun KQ aL=>?_;refine tQ [0,1,2,3] ?_;refine sN 4 fun K hK=>?_;simp only[GO];go_simp;cases qa:ia q
    ·refine(CM _ qa _).mono ?_;rintro e w5 ⟨rfl,rfl⟩;refine hK _ _ ?_;clear hK K;try simp only[PT]
     refine tQ [5,6] ?_;refine uQ 7 ?_;refine uQ 8 ?_;refine uQ 9 ?_;refine uQ 10 ?_;refine uQ 11 ?_;refine uQ 12 ?_;refine tQ [13] ?_;refine dQ (aL.out _ _ ?_);clear aL KQ;go_wp2;go_roundw
     case rel=>exact⟨j+1,by omega,by omega,by go_num,NX (Bool.eq_false_iff.2 fun h=>by have h1:=(HK.1 h).2.2.1;rw[<-rD.out,qa]at h1;cases h1),bK.drew⟩
     case measure=>simp[intOf];omega
    refine(CM _ qa _).mono ?_;rintro e w5 ⟨rfl,rfl⟩;refine hK _ _ ?_;clear hK K;try simp only[PT]
    refine tQ [5,6,7,9,10,11] ?_;refine sN 8 fun K hK=>?_;simp only[GO];go_simp;refine(CR _ (by have:=(jH q).1 qa;have:=rD.out;omega)).mono ?_;rintro e w6 ⟨rfl,fj⟩;have ku:=bK.drew.trans (fj.mono bK.drew.size);refine hK _ _ ?_;clear hK K;try simp only[PT]
    by_cases hE:cM v=s.take j
    ·rw[hE];refine tQ [12,13] ?_;refine dQ (aL.out _ _ ?_);clear aL KQ;go_wp2;refine bodyPost_ret (v:=.tuple #[.int .i32 q,.int .i64 j]) (by simp[results,results278,go_sem]) rfl ⟨?_,ku⟩;have sV:tX j s=true:=HK.2 ⟨hlen,by have:=rD.out;omega,by rw[<-rD.out];exact qa,hE⟩;rw[nP j s gW hk4 hj.out sV,HV.out,rD.out]
    have Ze:((⟨(cM v).toArray⟩:ByteArray).toList==(⟨(s.take j).toArray⟩:ByteArray).toList)=false:=by rw[ByteArray.toList_eq,ByteArray.toList_eq];simpa using hE
    have Zf:(cM v==s.take j)=false:=by simpa using hE
    refine tQ [12,13] ?_;refine dQ (aL.out _ _ ?_);clear aL KQ;go_wp2;go_roundw
    case rel=>exact⟨j+1,by omega,by omega,by go_num,NX (Bool.eq_false_iff.2 fun h=>hE (HK.1 h).2.2.2),ku⟩
    case measure=>simp[intOf];omega
  have hall:aU s=(0,0):=by
   have h:∀n,1<=n->n<=4->tX n s=false:=fun n h1 h4=>by
    rcases Nat.lt_or_ge n k with h2 | h2
    ·exact hj.out n h1 h2
    exact Bool.eq_false_iff.2 fun h=>by have:=((jh n s).1 h).1;omega
   unfold aU;simp[h 1,h 2,h 3,h 4]
  have HA:=af hall;clear hall;rcases(show k=5\/(k<=4/\s.length<k) by omega)with rfl | ⟨h1,h2⟩
  ·go_wp2;refine bodyPost_ret (v:=.tuple #[.int .i32 0,.int .i64 0]) (by simp[results,results278,go_sem]) rfl ⟨?_,bK⟩;rw[HA.out];rfl
  have d1:¬(4:Int)<(k:Int):=by omega
  go_wp2;refine bodyPost_ret (v:=.tuple #[.int .i32 0,.int .i64 0]) (by simp[results,results278,go_sem]) rfl ⟨?_,bK⟩;rw[HA.out];rfl
theorem qh(n a b:Int)(v:Bool)(h:(decide (a<=n)&&decide (n<=b))=v)(w:World):
  Calls prog 247 #[.int .i64 n,.int .i64 a,.int .i64 b] w fun e w'=>e=.returned (.bool v)/\w=w':=by
 have:=C9 n a b w
 rwa [h]at this
theorem bH{w w1:World}{cs:Array Value}{T:Nat}(hb:Below (w.alloc (.cells cs T)).heap.size (w.alloc (.cells cs T)) w1){j:Nat}{v:Value}(hv:cs[j]?=some v):
  w1.cell? ⟨w.heap.size,j,none⟩=some v:=by
 rw[hb.cell (by simp[World.size_alloc])];exact(World.cell?_alloc_at _ _ _ _ rfl).trans hv
theorem cB{w w1:World}{cs:Array Value}{T:Nat}(hb:Below (w.alloc (.cells cs T)).heap.size (w.alloc (.cells cs T)) w1)(j:Nat){v:Value}(hv:cs[j]?=some v):∀o,(w1.alloc o).cell? ⟨w.heap.size,j,none⟩=some v:=
 fun o=>bH (hb.alloc hb.size o) hv
end Go.Proofs.YtkghejaimhoboaaGreatDoor
