/- Parts of the proof of ScriptRaws. -/
import Derived.Test.YtkghejaimhoboaaGreatDoorPr03
import Derived.Maps.OwnOps
import Derived.Maps.OwnSet
import Derived.Test.YtkghejaimhoboaaGreatDoorPr02
set_option linter.unusedSimpArgs false
set_option linter.unusedVariables false
set_option maxRecDepth 100000
set_option maxHeartbeats 8000000
namespace Go.Proofs.YtkghejaimhoboaaGreatDoor
open Go.RowKit Go.Shelf Go.Proofs.Tryz
section
section
variable {P:Program} {ops:Array Oper}
def waitsT(md:Region.Mode)(ops:Array Oper)(i:Nat):Nat->Nat->Bool
 | 0,_=>false
 |f+1,k=>match ops[k]? with
  | none=>true
  | some o=>o.after.any fun e=>Region.binds md e&&(e.on==i||((ops[e.on]?).isSome&&waitsT md ops i f e.on))
theorem listed_get{md:Region.Mode}{listed:Array Bool}(hc:ClosedL md ops listed)(k:Nat)(h:ops[k]?=none):listed.getD k false=false:=by have h1:=Array.getElem?_eq_none_iff.1 h;have h2:listed[k]?=none:=Array.getElem?_eq_none_iff.2 (by rw[hc.1];exact h1);rw[Array.getD_eq_getD_getElem?,h2];rfl
theorem waitsT_spec{md:Region.Mode}{listed:Array Bool}{i:Nat}(hc:ClosedL md ops listed)(hn:listed.getD i true=false):∀(f k:Nat),waitsT md ops i f k=true->listed.getD k false=false
 | 0,_,h=>by cases h
 | f+1,k,h=>by
  unfold waitsT at h;cases hk:ops[k]? with
  | none=>exact listed_get hc k hk
  | some o=>
   rw[hk]at h;obtain⟨e,he,hb⟩:=Array.any_eq_true'.1 h;simp only[Bool.and_eq_true,Bool.or_eq_true,beq_iff_eq]at hb;cases hl:listed.getD k false with
   | false=>rfl
   | true=>
    exfalso;have h1:=hc.2 k o hk hl e he hb.1;rcases hb.2 with h2 | ⟨-,h2⟩
    ·rw[h2]at h1;rcases Nat.lt_or_ge i listed.size with h' | h'
     ·simp[h']at hn h1;rw[hn]at h1;cases h1
     simp[Array.getElem?_eq_none h']at h1
    have h3:=waitsT_spec hc hn f e.on h2;rw[h1]at h3;cases h3
theorem upR.getT{md:Region.Mode}{facts:List Fact}{i:Nat}{w:World}(h:upR md ops facts i w)(k:Nat)(p:World->Prop)(hm:(k,p)∈facts)(hw:waitsT md ops i (ops.size+1) k=true):p w:=by obtain⟨listed,h1,h2,h3⟩:=h;exact h3 _ hm (waitsT_spec h1 h2 _ _ hw)
variable {KQ:Exit->Act->World->Prop} {facts:List Fact} {taken:List Nat} {a:Act} {w:World}
end
end
section
open Go.RowKit Go.Shelf Go.MapKept Go.ChangeMaps
theorem findNow_none(q:IntKind)(n:Int):∀(es:List MapEntry)(i:Nat),(∀x:MapEntry,x∈es->∃a,x.key=.int q a/\a≠n)->Instr.findNow (.int q) (.int q n) es i=some none:=by
 intro es;induction es with
 | nil=>intro i _;rfl
 |cons e es ih=>
  intro i h;obtain⟨a,ha,hn⟩:=h e (by simp);have hb:(n==a)=false:=by simp;omega
  simp[Instr.findNow,ha,Instr.sameNow,hb];exact ih _ (fun x hx=>h x (by simp[hx]))
def putE(es:Array MapEntry)(key val:Value)(clock:Nat):Array MapEntry:=es.push {key,val,born:=clock}
theorem run_mapUpdate_new{P:Program}(t k e:TypeId)(q:IntKind)(ht:P.underlying t=some (.map k e))(hk:P.underlying k=some (.int q))(w:World)(b:Nat)(es:Array MapEntry)(clock:Nat)
  (hb:w.heap[b]?=some (.map es clock)) (n:Int) (hn:∀x:MapEntry,x∈es.toList->∃a,x.key=.int q a/\a≠n) (v:Value):
  (Instr.mapUpdate t (.map (some b)) (.int q n) v).run P w=.ok () (setBlock w b (.map (putE es (.int q n) v clock) (clock+1))):=by
 have h1:=run_findKey (w:=w) hk (findNow_none q n es.toList 0 hn);have h2:=run_checkKey (w:=w) hk (k:=.int q n) (by simp[IsKey]) false 9999;simp[Instr.mapUpdate,run_underlying ht,MapKept.run_getObj_map hb,h2,h1,MapKept.run_setObj_map _ hb,Result.andThen,setBlock,putE]
theorem wpList_insert_new{P:Program}(w:World){ops:Array Oper}{rest:List Oper}{o:Oper}{a:Act}{Q:Exit->Act->World->Prop}
  (hg:o.guard=none) (m x v:Operand) (t:TypeId) (hop:o.op=Op.insert t m x v)
  (k e:TypeId) (q:IntKind) (ht:P.underlying t=some (.map k e)) (hk:P.underlying k=some (.int q)) (b:Nat) (es:Array MapEntry) (clock:Nat)
  (hm:a.eval m=.map (some b)) (hb:w.heap[b]?=some (.map es clock)) (n:Int) (val:Value) (hx:a.eval x=.int q n) (hv:a.eval v=val)
  (hn:∀x:MapEntry,x∈es.toList->∃a,x.key=.int q a/\a≠n)
  (hK:∀w',w'.heap[b]?=some (.map (putE es (.int q n) val clock) (clock+1))->w.grownBy w' (some b)->wpList P ops Q rest (a.put o.dst undef) w'):
  wpList P ops Q (o::rest) a w:=by
 refine wpList_plain hg fun K' hK'=>?_;have hrun:=run_mapUpdate_new t k e q ht hk w b es clock hb n hn val;unfold Oper.wp;simp[execOp,hop,hm,hx,hv,hrun,Result.andThen];refine hK' _ _ (hK _ ?_ ?_)
 ·have:b<w.heap.size:=by rcases Nat.lt_or_ge b w.heap.size with h | h;exact h;rw[Array.getElem?_eq_none h]at hb;cases hb
  simp[setBlock,this]
 exact World.mapTurned.grown ⟨es,clock,_,_,hb,rfl⟩
theorem run_lookup_at{P:Program}(t k e:TypeId)(q:IntKind)(ht:P.underlying t=some (.map k e))(hk:P.underlying k=some (.int q))(w:World)(b:Nat)(es:Array MapEntry)(clock:Nat)
  (hb:w.heap[b]?=some (.map es clock)) (n:Int) (v:Value) (j:Nat) (hn:Instr.findNow (.int q) (.int q n) es.toList 0=some (some (j,v))) (c:Bool):
  (Instr.lookup t (.map (some b)) (.int q n) c).run P w=.ok (if c then .tuple #[v,.bool true]else v) w:=by
 have h1:=run_findKey (w:=w) hk hn;have h2:=fun z=>run_checkKey (w:=w) hk (k:=.int q n) (by simp[IsKey]) z 9999;simp[Instr.lookup,run_underlying ht,MapKept.run_getObj_map hb,h2,h1,Result.andThen]
end
section
open Go.RowKit Go.Shelf Go.MapKept Go.ChangeMaps
def wkey(s:List UInt8):Value:=.string ⟨s.toArray⟩
abbrev WL:=List (List UInt8×Int)
structure WM (w:World)(b:Nat)(l:WL):Prop where
 out:∃es clock,w.heap[b]?=some (.map es clock)/\es.toList.map (fun e=>(e.key,e.val))=l.map (fun p=>(wkey p.1,Value.int .i64 p.2))
 nodup:(l.map Prod.fst).Nodup
 st:∀es clock,w.heap[b]?=some (.map es clock)->Stamped es clock
theorem WM.lt{w:World}{b:Nat}{l:WL}(h:WM w b l):b<w.heap.size:=by obtain⟨⟨es,clock,hb,_⟩,_,_⟩:=h;exact(Array.getElem?_eq_some_iff.1 hb).1
theorem WM.keep{w w':World}{b:Nat}{l:WL}(h:WM w b l)(hk:w'.heap[b]?=w.heap[b]?):WM w' b l:=by obtain⟨⟨es,clock,hb,he⟩,hn,hs⟩:=h;exact⟨⟨es,clock,hk.trans hb,he⟩,hn,fun es clock h=>hs es clock (hk.symm.trans h)⟩
theorem WM.below{w w':World}{b:Nat}{l:WL}(h:WM w b l)(hb:Below w.heap.size w w'):WM w' b l:=h.keep (hb.block _ h.lt)
theorem WM.wrote{w w':World}{M:List Nat}{b:Nat}{l:WL}(h:WM w b l)(hb:Wrote M w w')(hM:b∉M):WM w' b l:=h.keep (hb.block _ h.lt hM)
theorem WM.alloc{w:World}{b:Nat}{l:WL}(h:WM w b l)(o:Obj):WM (w.alloc o) b l:=h.below ((Below.refl _ w).alloc nat_le_rfl o)
theorem WM.new(w:World):WM (w.alloc (.map #[] 0)) w.heap.size []:=⟨⟨#[],0,World.alloc_heap_new w _,rfl⟩,List.nodup_nil,fun es clock h=>by rw[World.alloc_heap_new]at h;cases h;exact stamped_empty 0⟩
theorem run_len_text{P:Program}(t k e:TypeId)(ht:P.underlying t=some (.map k e)){w:World}{b:Nat}{l:WL}(h:WM w b l)(ty:TypeId):
  (Builtin.len_ #[t] ty #[.map (some b)]).run P w=.ok (.int .i64 l.length) w:=by
 obtain⟨⟨es,clock,hb,he⟩,hn,hs⟩:=h;have hl:es.size=l.length:=by have:=congrArg List.length he;simpa using this
 simp[Builtin.len_,run_underlying ht,MapKept.run_getObj_map hb,goInt,Result.andThen,hl]
end
section
open Go.RowKit Go.Shelf Go.MapKept Go.ChangeMaps
def fstE(q:IntKind)(es:List MapEntry)(k:Int):Option Value:=match Instr.findNow (.int q) (.int q k) es 0 with
 | some (some (_,v))=>some v
 | _=>none
def IM(q:IntKind)(w:World)(b:Nat)(G:Int->Option Value):Prop:=
 ∃es clock,w.heap[b]?=some (.map es clock)/\(∀x∈es.toList,IsKey (.int q) x.key)/\∀k,fstE q es.toList k=G k
variable {q:IntKind} {w:World} {b:Nat} {G:Int->Option Value}
theorem IM.lt(h:IM q w b G):b<w.heap.size:=by obtain⟨es,clock,hb,_⟩:=h;exact(Array.getElem?_eq_some_iff.1 hb).1
theorem IM.keep{w':World}(h:IM q w b G)(hk:w'.heap[b]?=w.heap[b]?):IM q w' b G:=by obtain⟨es,clock,hb,he⟩:=h;exact⟨es,clock,hk.trans hb,he⟩
theorem IM.below{w':World}(h:IM q w b G)(hb:Below w.heap.size w w'):IM q w' b G:=h.keep (hb.block _ h.lt)
theorem IM.wrote{w':World}{M:List Nat}(h:IM q w b G)(hb:Wrote M w w')(hM:b∉M):IM q w' b G:=h.keep (hb.block _ h.lt hM)
theorem IM.alloc(h:IM q w b G)(o:Obj):IM q (w.alloc o) b G:=h.below ((Below.refl _ w).alloc nat_le_rfl o)
theorem IM.new(w:World):IM q (w.alloc (.map #[] 0)) w.heap.size (fun _=>none):=⟨#[],0,World.alloc_heap_new w _,by simp,fun k=>rfl⟩
theorem IM.grown{w':World}{v:Value}(h:IM q w b G)(hg:w.grownBy w' v.ownBlock)(hv:v.ownBlock≠some b):IM q w' b G:=h.keep (hg.block _ h.lt (fun e=>hv e.symm))
theorem isKey_int{q:IntKind}{v:Value}(h:IsKey (.int q) v):∃n,v=.int q n:=by cases v<;>simp[IsKey]at h;subst h;exact⟨_,rfl⟩
theorem IM.found(h:IM q w b G)(k:Int):∃es clock,w.heap[b]?=some (.map es clock)/\(∀x∈es.toList,IsKey (.int q) x.key)/\(∀k,fstE q es.toList k=G k)/\
  ((G k=none/\Instr.findNow (.int q) (.int q k) es.toList 0=some none)\/∃j v e,G k=some v/\Instr.findNow (.int q) (.int q k) es.toList 0=some (some (j,v))/\es[j]?=some e/\e.key=.int q k):=by
 obtain⟨es,clock,hb,hk,hG⟩:=h;refine⟨es,clock,hb,hk,hG,?_⟩;have h1:=hG k;unfold fstE at h1;rcases findNow_spec (d:=.int q) (k:=.int q k) (by simp[IsKey]) es.toList 0 hk with⟨h2,h3⟩ | ⟨j,e,h2,h3,h4⟩
 ·rw[h2]at h1;exact .inl ⟨h1.symm,h2⟩
 rw[h2]at h1;refine .inr ⟨j,e.val,e,h1.symm,by simpa using h2,by simpa using h3,h4⟩
theorem run_lookup_im{P:Program}(t k e:TypeId)(ht:P.underlying t=some (.map k e))(hk:P.underlying k=some (.int q))(h:IM q w b G)(z:Value)(hz:(zeroValue e).run P w=.ok z w)(n:Int)(c:Bool):
  (Instr.lookup t (.map (some b)) (.int q n) c).run P w=.ok (if c then .tuple #[(G n).getD z,.bool (G n).isSome]else(G n).getD z) w:=by
 obtain⟨es,clock,hb,_,_,h1⟩:=h.found n;have h2:=fun z=>run_checkKey (w:=w) hk (k:=.int q n) (by simp[IsKey]) z 9999;rcases h1 with⟨hl,hf⟩ | ⟨j,v,e',hl,hf,_⟩
 ·have h1:=run_findKey (w:=w) hk hf;simp[Instr.lookup,run_underlying ht,MapKept.run_getObj_map hb,h2,h1,hz,Result.andThen,hl]
 have h1:=run_findKey (w:=w) hk hf;simp[Instr.lookup,run_underlying ht,MapKept.run_getObj_map hb,h2,h1,Result.andThen,hl]
theorem findNow_shift'(q:IntKind)(k:Int)(d:Nat):∀(es:List MapEntry)(i:Nat),Instr.findNow (.int q) (.int q k) es (i+d)=(Instr.findNow (.int q) (.int q k) es i).map (Option.map fun p=>(p.1+d,p.2)):=by
 intro es;induction es with
 | nil=>intro i;rfl
 | cons x xs ih=>
  intro i;simp only[Instr.findNow];cases Instr.sameNow (.int q) (.int q k) x.key with
  | none=>rfl
  | some r=>
   cases r with
   | true=>rfl
   |false=>simp only;rw[show i+d+1=(i+1)+d by omega];exact ih (i+1)
theorem findNow_shift(q:IntKind)(k:Int)(es:List MapEntry)(i:Nat):Instr.findNow (.int q) (.int q k) es i=(Instr.findNow (.int q) (.int q k) es 0).map (Option.map fun p=>(p.1+i,p.2)):=by
 have:=findNow_shift' q k i es 0
 rwa [Nat.zero_add]at this
theorem fstE_cons(q:IntKind)(x:MapEntry)(xs:List MapEntry)(n:Int)(hn:x.key=.int q n)(hk:∀y∈xs,IsKey (.int q) y.key)(k:Int):fstE q (x::xs) k=if k=n then some x.val else fstE q xs k:=by
 unfold fstE;simp only[Instr.findNow,hn,Instr.sameNow,if_true];by_cases h:k=n
 ·subst h;simp
 have hb:(k==n)=false:=by simp[h]
 rw[hb,if_neg h];simp only;rw[findNow_shift q k xs (0+1)];rcases findNow_spec (d:=.int q) (k:=.int q k) (by simp[IsKey]) xs 0 hk with⟨g2,g3⟩ | ⟨j2,e,g2,g3,g4⟩<;>rw[g2]<;>rfl
theorem fstE_push(q:IntKind)(es:List MapEntry)(n:Int)(v:Value)(c:Nat)(hk:∀y∈es,IsKey (.int q) y.key)(hn:fstE q es n=none)(k:Int):
  fstE q (es++[{key:=.int q n,val:=v,born:=c}]) k=if k=n then some v else fstE q es k:=by
 induction es with
 |nil=>rw[List.nil_append,fstE_cons q _ [] n rfl (by simp)]
 |cons x xs ih=>
  obtain⟨m,hm⟩:=isKey_int (hk x (by simp));have hk':∀y∈xs,IsKey (.int q) y.key:=fun y hy=>hk y (by simp[hy]);rw[fstE_cons q x xs m hm hk']at hn;have hnm:n≠m:=by intro e;rw[if_pos e]at hn;cases hn
  rw[if_neg hnm]at hn;rw[List.cons_append,fstE_cons q x _ m hm (by intro y hy;rcases List.mem_append.1 hy with h | h;exact hk' y h;simp at h;subst h;simp[IsKey]),fstE_cons q x xs m hm hk',ih hk' hn];by_cases h1:k=m
  ·subst h1;rw[if_pos rfl,if_neg (Ne.symm hnm)];simp
  rw[if_neg h1,if_neg h1]
theorem fstE_modify(q:IntKind)(n:Int)(v:Value):∀(es:List MapEntry)(i j:Nat)(u:Value),(∀y∈es,IsKey (.int q) y.key)->Instr.findNow (.int q) (.int q n) es i=some (some (i+j,u))->∀k,
  fstE q (es.modify j fun e=>{e with key:=.int q n,val:=v}) k=if k=n then some v else fstE q es k:=by
 intro es;induction es with
 | nil=>intro i j u _ h;simp[Instr.findNow]at h
 | cons x xs ih=>
  intro i j u hk h k;obtain⟨m,hm⟩:=isKey_int (hk x (by simp));have hk':∀y∈xs,IsKey (.int q) y.key:=fun y hy=>hk y (by simp[hy]);have h0:=h;simp only[Instr.findNow,hm,Instr.sameNow,if_true]at h;by_cases hnm:n=m
  ·subst hnm;simp at h;obtain⟨rfl,_⟩:=h;rw[List.modify_zero_cons,fstE_cons q _ xs n rfl hk',fstE_cons q x xs n hm hk'];by_cases h1:k=n
   ·rw[if_pos h1,if_pos h1]
   rw[if_neg h1,if_neg h1,if_neg h1]
  have hb:(n==m)=false:=by simp[hnm]
  rw[hb]at h;simp only at h;cases j with
  |zero=>
   rcases findNow_spec (d:=.int q) (k:=.int q n) (by simp[IsKey]) xs (i+1) hk' with⟨h2,_⟩ | ⟨j',e,h2,_,_⟩<;>rw[h2]at h<;>simp at h
   omega
  | succ j=>
   have h1:=ih (i+1) j u hk' (by rw[show i+1+j=i+(j+1) by omega];exact h) k;have hk2:∀y∈(xs.modify j fun e=>{e with key:=.int q n,val:=v}),IsKey (.int q) y.key:=by
    intro y hy;obtain⟨i',hi'⟩:=List.getElem?_of_mem hy;rw[List.getElem?_modify]at hi';cases hx:xs[i']? with
    | none=>rw[hx]at hi';simp at hi'
    |some z=>
     rw[hx]at hi';simp at hi';split at hi'<;>subst hi'
     ·simp[IsKey]
     exact hk' z (List.mem_of_getElem? hx)
   rw[List.modify_succ_cons,fstE_cons q x _ m hm hk2,h1,fstE_cons q x xs m hm hk'];by_cases h2:k=m
   ·subst h2;rw[if_pos rfl,if_neg (Ne.symm hnm)];simp
   rw[if_neg h2,if_neg h2]
theorem run_set_im{P:Program}(t k e:TypeId)(ht:P.underlying t=some (.map k e))(hk:P.underlying k=some (.int q))(h:IM q w b G)(n:Int)(v:Value):
  ∃w',(Instr.mapUpdate t (.map (some b)) (.int q n) v).run P w=.ok () w'/\IM q w' b (fun k=>if k=n then some v else G k)/\w.grownBy w' (some b):=by
 obtain⟨es,clock,hb,hkey,hG,h1⟩:=h.found n;have h2:=run_checkKey (w:=w) hk (k:=.int q n) (by simp[IsKey]) false 9999;have hlt:b<w.heap.size:=h.lt;rcases h1 with⟨hl,hf⟩ | ⟨j,u,e1,hl,hf,hj,hke⟩
 ·have h1:=run_findKey (w:=w) hk hf;refine⟨setBlock w b (.map (es.push {key:=.int q n,val:=v,born:=clock}) (clock+1)),?_,⟨es.push {key:=.int q n,val:=v,born:=clock},clock+1,by simp[setBlock,hlt],?_,fun k=>?_⟩,World.mapTurned.grown ⟨es,clock,_,_,hb,rfl⟩⟩
  ·simp[Instr.mapUpdate,run_underlying ht,MapKept.run_getObj_map hb,h2,h1,MapKept.run_setObj_map _ hb,Result.andThen,setBlock]
  ·intro x hx;simp at hx;rcases hx with hx | rfl
   ·exact hkey x (by simpa using hx)
   simp[IsKey]
  rw[Array.toList_push,fstE_push q es.toList n v clock hkey (by rw[hG,hl]) k,hG]
 have h1:=run_findKey (w:=w) hk hf;refine⟨setBlock w b (.map (es.modify j fun e=>{e with key:=.int q n,val:=v}) clock),?_,⟨es.modify j fun e=>{e with key:=.int q n,val:=v},clock,by simp[setBlock,hlt],?_,fun k=>?_⟩,World.mapTurned.grown ⟨es,clock,_,_,hb,rfl⟩⟩
 ·have hsb:Instr.sameBits 10000 (.int q n) (.int q n)=true:=by simp[Instr.sameBits]
  simp[Instr.mapUpdate,run_underlying ht,MapKept.run_getObj_map hb,h2,h1,MapKept.run_setObj_map _ hb,Result.andThen,setBlock,hj,hke,Instr.keyThatStays,hsb]
 ·refine isKey_modify hkey j _ (fun e he=>?_);rw[hj]at he;cases he;exact hke.symm
 rw[Array.toList_modify,fstE_modify q n v es.toList 0 j u hkey (by simpa using hf) k,hG]
theorem wpList_set_im{P:Program}{ops:Array Oper}{rest:List Oper}{o:Oper}{a:Act}{Q:Exit->Act->World->Prop}
  (hg:o.guard=none) (m x v:Operand) (t:TypeId) (hop:o.op=Op.insert t m x v) (k e:TypeId) (ht:P.underlying t=some (.map k e)) (hk:P.underlying k=some (.int q)) (h:IM q w b G)
  (hm:a.eval m=.map (some b)) (n:Int) (val:Value) (hx:a.eval x=.int q n) (hv:a.eval v=val)
  (hK:∀w',IM q w' b (fun k=>if k=n then some val else G k)->w.grownBy w' (some b)->wpList P ops Q rest (a.put o.dst undef) w'):
  wpList P ops Q (o::rest) a w:=by
 refine wpList_plain hg fun K' hK'=>?_;obtain⟨w',hrun,h1,h2⟩:=run_set_im t k e ht hk h n val;unfold Oper.wp;simp[execOp,hop,hm,hx,hv,hrun,Result.andThen];exact hK' _ _ (hK _ h1 h2)
theorem wp_update_im{P:Program}{o:Oper}{a:Act}{K:Act->World->Prop}{Q:Exit->Act->World->Prop}
  (m x v:Operand) (t:TypeId) (hop:o.op=Op.mapUpdate t m x v) (k e:TypeId) (ht:P.underlying t=some (.map k e)) (hk:P.underlying k=some (.int q)) (h:IM q w b G)
  (hm:a.eval m=.map (some b)) (n:Int) (val:Value) (hx:a.eval x=.int q n) (hv:a.eval v=val)
  (hK:∀w',IM q w' b (fun k=>if k=n then some val else G k)->w.grownBy w' (some b)->K (a.put o.dst undef) w'):o.wp P a w K Q:=by
 obtain⟨w',hrun,h1,h2⟩:=run_set_im t k e ht hk h n val;unfold Oper.wp;simp[execOp,hop,hm,hx,hv,hrun,Result.andThen];exact hK _ h1 h2
section
variable {P:Program} {ops:Array Oper} {KQ:Exit->Act->World->Prop} {facts:List Fact} {taken:List Nat} {a:Act} {w:World}
theorem lookQ(i:Nat){oi:Oper}(hi:ops[i]?=some oi)(hB:takeB ops (facts.map (·.1)) taken i=true)(hw:Region.wanted oi (yielded ops a.tmps)=true){t:TypeId}{x y:Operand}{c:Bool}(hop:oi.op=.lookup t x y c){u z:Value}(hx:a.eval x=u)(hy:a.eval y=z)
  (n:Nat) {k:Nat} {p:World->Prop} (hf:facts[n]?=some (k,p)) (hk:waits .any ops k i=true) (v:Value) (hr:∀w',p w'->(Instr.lookup t u z c).run P w'=.ok v w')
  (h:atR P ops KQ facts (i::taken) (a.put oi.dst v) w):atR P ops KQ facts taken a w:=by
 refine readyR i hi hB v (.inl ⟨hw,fun w' hu=>?_⟩) h;have h1:=hr w' (hu.get k p (List.mem_of_getElem? hf) hk);simp only[execOp,hop,hx,hy,Sem.run_bind,h1,Result.andThen_ok,Sem.run_pure]
theorem lookT(i:Nat){oi:Oper}(hi:ops[i]?=some oi)(hB:takeB ops (facts.map (·.1)) taken i=true)(hw:Region.wanted oi (yielded ops a.tmps)=true){t:TypeId}{x y:Operand}{c:Bool}(hop:oi.op=.lookup t x y c){u z:Value}(hx:a.eval x=u)(hy:a.eval y=z)
  (n:Nat) {k:Nat} {p:World->Prop} (hf:facts[n]?=some (k,p)) (hk:waitsT .any ops i (ops.size+1) k=true) (v:Value) (hr:∀w',p w'->(Instr.lookup t u z c).run P w'=.ok v w')
  (h:atR P ops KQ facts (i::taken) (a.put oi.dst v) w):atR P ops KQ facts taken a w:=by
 refine readyR i hi hB v (.inl ⟨hw,fun w' hu=>?_⟩) h;have h1:=hr w' (hu.getT k p (List.mem_of_getElem? hf) hk);simp only[execOp,hop,hx,hy,Sem.run_bind,h1,Result.andThen_ok,Sem.run_pure]
end
end
section
attribute [local go_sem] Oper.semAt_some
def encU(x:Nat×Nat):Array Value:=#[.int .i64 x.1,.int .i32 x.2]
def RuneNx(s:List UInt8)(pre:List (Nat×Nat))(x:Nat×Nat)(_W:World):Prop:=
 ∃s' p',ChainU s 0 pre s' p'/\s'≠[]/\((badR s' p'=true/\x=(p',0))\/(badR s' p'=false/\x=(p',(firstF s').1)))
def RuneS(s:List UInt8)(xs:List (Nat×Nat)):Prop:=
 (∃p',ChainU s 0 xs [] p')\/∃pre s' p',ChainU s 0 pre s' p'/\s'≠[]/\badR s' p'=true/\xs=pre++[(p',0)]
theorem utf_runes(s:List UInt8)(w:World):
  Calls prog 305 #[.string ⟨s.toArray⟩] w fun e w'=>e=.returned (.func (.func 329) #[] #[.pointer (some ⟨w.heap.size,0,none⟩)])/\w.alloc (.cells #[.string ⟨s.toArray⟩] 9)=w':=by
 go_enter func305,ntmps305;go_wp2;go_ret;exact⟨rfl,rfl⟩
theorem utf_runes1(s:List UInt8)(w0 w:World)(B:Nat)(hs:s.length<=1000000)(hB0:w0.heap.size<=B)(hw:Below w0.heap.size w0 w)(hb:Boxed w B 9 (.string ⟨s.toArray⟩)):
  SeqG prog 329 #[.pointer (some ⟨B,0,none⟩)] encU (Keep w0.heap.size [B]) (Wrote []) (RuneNx s) (RuneS s) (fun _=>True) w:=by
 intro lb J Jx W hW hlb hJ hJx hY h0;refine callsIn_of_wp func329 rfl trivial ?_ rfl;simp only[ntmps329,List.size_toArray,List.length_cons,List.length_nil,Nat.reduceAdd,Nat.reduceSub,Array.replicate_succ,Array.replicate_zero,List.push_toArray,List.append_toArray,List.nil_append,List.cons_append];have hsz:ByteArray.size ⟨s.toArray⟩=s.length:=by simp[ByteArray.size]
 gi_wp2
 gi_loopw [3,4,5] (fun at_ _ _ wr=>∃(pre:List (Nat×Nat))(s':List UInt8)(p':Nat),at_=.int .i64 p'/\p'<=s.length/\Below w0.heap.size w0 wr/\Boxed wr B 9 (.string ⟨s.toArray⟩)/\ChainU s 0 pre s' p'/\Hid (s'=s.drop p')/\J pre wr)
  (fun at_ _ _ _=>s.length-(intOf at_).toNat)
 case atStart=>exact⟨[],s,0,rfl,Nat.zero_le _,hw.trans (hW.mono hw.size),boxed_below hb hW,⟨rfl,rfl⟩,rfl,h0⟩
 case round=>
  obtain⟨pre,s',p',rfl,hp,hbel,hbx,hch,hs',hj⟩:=hrel;have hc1:=hbx.cell;rcases Nat.lt_or_ge p' s.length with hlt | hge
  ·have hcut:=fun W=>str_from s p' hp W;have hl':s'.length=s.length-p':=by rw[hs'.out];simp
   have HC:=hid (utf_first s' wr (by omega));rw[<-hs'.out]at hcut;have hle:=firstF_le s';have hbd:badR s' p'=(decide ((firstF s').2=0)||decide (65535<p'+(firstF s').2)):=rfl;have hne:s'≠[]:=by intro h;rw[h]at hl';simp at hl';omega
   have HNX:∀x,(badR s' p'=true/\x=(p',0))\/(badR s' p'=false/\x=(p',(firstF s').1))->RuneNx s pre x wr:=fun x hx=>⟨s',p',hch,hne,hx⟩;have HF:=hid (show firstF s'=((firstF s').1,(firstF s').2)from rfl);have HSN:=hid (fun h=>hch.snoc hne h);generalize hq1:(firstF s').1=r at*
   generalize hq2:(firstF s').2=n at*
   rcases(show n=0\/(0<n/\65535<p'+n)\/(0<n/\p'+n<=65535) by omega)with rfl | ⟨hn,hn2⟩ | ⟨hn,hn2⟩
   ·gi_wp2_with fail
    refine inW HC.out ?_;rintro e w2 ⟨rfl,hb2⟩;have hbel2:=hbel.trans (hb2.mono hbel.size);have hbx2:=boxed_below hbx hb2;have hj2:=hJ _ _ _ hj (Wrote.of_below hb2);obtain⟨fn,tmps,assign,body,hy,hR⟩:=hY pre (p',0) w2 hj2 (HNX _ (.inl ⟨by simp[hbd],rfl⟩));replace hy:(Instr.yield lb #[.int .i64 (p':Int),.int .i32 0]).run prog w2=_:=hy;have HR:=hid hR;clear hR;gi_wp2_with fail;refine⟨rfl,HR.mono ?_⟩;rintro e W3 (⟨rfl,hJ3,hk3⟩ | ⟨rfl,hJx3⟩)
    ·gi_wp2
     refine bodyPost_ret (results_none rfl _ _ _) rfl ?_;exact⟨⟨_,rfl⟩,.inl ⟨_,.inr ⟨pre,s',p',hch,hne,by simp[hbd],rfl⟩,hJ3⟩⟩
    gi_wp2
    refine bodyPost_ret (results_none rfl _ _ _) rfl ?_;exact⟨⟨_,rfl⟩,.inr ⟨_,trivial,hJx3⟩⟩
   ·have e1:((n:Int)==0)=false:=by simp;omega
    have hbt:badR s' p'=true:=by rw[hbd];simp;omega
    gi_wp2_with fail
    refine inW HC.out ?_;rintro e w2 ⟨rfl,hb2⟩;have hbel2:=hbel.trans (hb2.mono hbel.size);have hbx2:=boxed_below hbx hb2;have hj2:=hJ _ _ _ hj (Wrote.of_below hb2);obtain⟨fn,tmps,assign,body,hy,hR⟩:=hY pre (p',0) w2 hj2 (HNX _ (.inl ⟨hbt,rfl⟩));replace hy:(Instr.yield lb #[.int .i64 (p':Int),.int .i32 0]).run prog w2=_:=hy;have HR:=hid hR;clear hR;gi_wp2_with fail;refine⟨rfl,HR.mono ?_⟩;rintro e W3 (⟨rfl,hJ3,hk3⟩ | ⟨rfl,hJx3⟩)
    ·gi_wp2
     refine bodyPost_ret (results_none rfl _ _ _) rfl ?_;exact⟨⟨_,rfl⟩,.inl ⟨_,.inr ⟨pre,s',p',hch,hne,hbt,rfl⟩,hJ3⟩⟩
    gi_wp2
    refine bodyPost_ret (results_none rfl _ _ _) rfl ?_;exact⟨⟨_,rfl⟩,.inr ⟨_,trivial,hJx3⟩⟩
   have e1:((n:Int)==0)=false:=by simp;omega
   have hbt:badR s' p'=false:=by rw[hbd];simp;omega
   gi_wp2_with fail
   refine inW HC.out ?_;rintro e w2 ⟨rfl,hb2⟩;have hbel2:=hbel.trans (hb2.mono hbel.size);have hbx2:=boxed_below hbx hb2;have hj2:=hJ _ _ _ hj (Wrote.of_below hb2);obtain⟨fn,tmps,assign,body,hy,hR⟩:=hY pre (p',r) w2 hj2 (HNX _ (.inr ⟨hbt,rfl⟩));replace hy:(Instr.yield lb #[.int .i64 (p':Int),.int .i32 (r:Int)]).run prog w2=_:=hy;have HR:=hid hR;clear hR;gi_wp2_with fail;refine⟨rfl,HR.mono ?_⟩;rintro e W3 (⟨rfl,hJ3,hk3⟩ | ⟨rfl,hJx3⟩)
   ·have hbx3:Boxed W3 B 9 _:=(hk3.keep B (by simp)).trans hbx2;have hbel3:=hbel2.trans hk3.bel
    gi_wp2
    go_roundw
    case rel=>refine⟨pre++[(p',r)],s'.drop n,p'+n,by go_num,by omega,hbel3,hbx3,HSN hbt,?_,hJ3⟩;show s'.drop n=s.drop (p'+n);rw[hs'.out,List.drop_drop]
    case measure=>simp[intOf];omega
   gi_wp2
   refine bodyPost_ret (results_none rfl _ _ _) rfl ?_;exact⟨⟨_,rfl⟩,.inr ⟨_,trivial,hJx3⟩⟩
  obtain rfl:p'=s.length:=by omega
  have hnil:s'=[]:=by rw[hs'.out];simp
  subst hnil;gi_wp2;refine bodyPost_end (results_none rfl _ _ _) rfl ?_;exact⟨⟨_,rfl⟩,.inl ⟨_,.inl ⟨_,hch⟩,hj⟩⟩
def wrongU(s:List UInt8):Int:=match (runesL s 0).2 with
 | none=> -1
 | some p=>p
theorem firstF_ne(s:List UInt8)(p:Nat)(h:badR s p=false):(firstF s).1≠0/\0<(firstF s).2/\p+(firstF s).2<=65535/\mayR (firstF s).1=true/\(firstF s).1<=1114111/\(firstF s).2=lenR (firstF s).1:=by
 simp only[badR,Bool.or_eq_false_iff,decide_eq_false_iff_not]at h;rcases firstF_spec s with h' | ⟨r,n,h',h1,h2,h3,_⟩
 ·rw[h']at h;exact absurd rfl h.1
 rw[h']at h ⊢;refine⟨h1,by omega,by omega,h2,?_,h3⟩;have:=(mayR_iff r).1 h2;dsimp only;omega
theorem RuneNx.cases{s:List UInt8}{pre:List (Nat×Nat)}{x:Nat×Nat}{W:World}(h:RuneNx s pre x W):(x.2=0/\(runesL s 0).2=some x.1/\(runesL s 0).1=pre.map (·.2))\/(x.2≠0/\x.2<=1114111):=by
 obtain⟨s',p',hch,hne,⟨hb,rfl⟩ | ⟨hb,rfl⟩⟩:=h
 ·refine .inl ⟨rfl,?_⟩;rw[hch.runes,runesL_bad s' p' hne hb];simp
 exact .inr ⟨(firstF_ne s' p' hb).1,(firstF_ne s' p' hb).2.2.2.2.1⟩
theorem RuneS.cases{s:List UInt8}{xs:List (Nat×Nat)}(h:RuneS s xs):((runesL s 0).2=none/\(runesL s 0).1=xs.map (·.2))\/∃x∈xs,x.2=0:=by
 rcases h with⟨p',hch⟩ | ⟨pre,s',p',hch,hne,hb,rfl⟩
 ·refine .inl ?_;rw[hch.runes];simp[runesL_nil]
 exact .inr ⟨(p',0),by simp,rfl⟩
def WrongI(w:World)(pre:List (Nat×Nat))(W:World):Prop:=(∀x∈pre,x.2≠0)/\Boxed W w.heap.size 3 (.int .i64 0)/\Below w.heap.size w W
def WrongX(s:List UInt8)(w:World)(c:Code)(_pre:List (Nat×Nat))(W:World):Prop:=c=.ret/\Boxed W w.heap.size 3 (.int .i64 (wrongU s))/\Below w.heap.size w W
theorem utf_Wrong(s:List UInt8)(w:World)(hs:s.length<=1000000):
  Calls prog 284 #[.string ⟨s.toArray⟩] w fun e w'=>e=.returned (.int .i64 (wrongU s))/\Below w.heap.size w w':=by
 refine calls_marks func284 rfl ?_;simp only[ntmps284,List.size_toArray,List.length_cons,List.length_nil,Nat.reduceAdd,Nat.reduceSub,Array.replicate_succ,Array.replicate_zero,List.push_toArray,List.append_toArray,List.nil_append,List.cons_append];go_wp2_with fail
 refine(utf_runes s _).mono ?_;rintro e w' ⟨rfl,rfl⟩;go_wp2_with fail
 generalize hW0:((w.alloc (Obj.cells #[Value.int IntKind.i64 0] 3)).alloc (Obj.cells #[Value.string ⟨s.toArray⟩] 9))=W0;have hsz:W0.heap.size=w.heap.size+2:=by rw[<-hW0];simp
 have hb0:Below w.heap.size w W0:=by rw[<-hW0];exact((Below.refl _ w).alloc nat_le_rfl _).alloc (by simp) _
 have hbx:Boxed W0 w.heap.size 3 (.int .i64 0)/\Boxed W0 (w.heap.size+1) 9 (.string ⟨s.toArray⟩):=by have e1:=Boxed.new w 3 (.int .i64 0);have e2:=Boxed.new (w.alloc (Obj.cells #[Value.int IntKind.i64 0] 3)) 9 (.string ⟨s.toArray⟩);simp only[World.size_alloc]at e2;rw[<-hW0];exact⟨e1.alloc _,e2⟩
 obtain⟨b1,b2⟩:=hbx;have HW0:=hid hW0;clear hW0;refine wp_range (α:=Nat×Nat) (gf:=329) (lb:=#[.pointer (some ⟨w.heap.size+1,0,none⟩)]) rfl (enters_of func329 (by kernel_rfl) rfl)
  (n₀:=w.heap.size) (L:=[w.heap.size+1]) (M:=[]) (utf_runes1 s w W0 (w.heap.size+1) hs (by omega) hb0 b2)
  (by omega) (by simp;omega) (by simp) (fun _=>rfl) (WrongI w) (WrongX s w) ?hI ?hIx ?h0
  (fun pre x a' W=>RuneNx s pre x W/\a'={tmps:=#[.string ⟨s.toArray⟩,undef,.pointer (some ⟨w.heap.size,0,none⟩),.int .i64 x.1,.int .i32 x.2,.string ⟨s.toArray⟩,.func (.func 329) #[] #[.pointer (some ⟨w.heap.size+1,0,none⟩)],.int .i64 x.1,.int .i32 x.2,undef,undef,undef],defers:=[]}) ?hAx ?assign ?body ?done ?stop
 case hI=>rintro s A A' ⟨g1,g2,g3⟩ hw;rw[hsz]at hw;exact⟨g1,hw.boxed (by simp<;>omega) g2,g3.trans (hw.below g3.size (by simp<;>omega))⟩
 case hIx=>rintro c s A A' ⟨rfl,g1,g2⟩ hw;rw[hsz]at hw;exact⟨rfl,hw.boxed (by simp<;>omega) g1,g2.trans (hw.below g2.size (by simp<;>omega))⟩
 case h0=>exact⟨by simp,b1,hb0⟩
 case hAx=>rintro pre x a' A A' ⟨hx,rfl⟩ hl hw;exact⟨hx,rfl⟩
 case assign=>
  intro pre x W K hl hi hx hK;simp only[encU]
  gi_wp2
  refine hK _ _ bel_refl hi ⟨hx,rfl⟩
 case body=>
  rintro pre x a' W hl ⟨g1,g2,g3⟩ ⟨hx,rfl⟩;have c1:=g2.cell;have f1:=g2.frozen;rcases hx.cases with⟨h1,h2,_⟩ | ⟨h1,h2⟩
  ·have hwr:wrongU s=x.1:=by unfold wrongU;rw[h2]
   have HW:=hid hwr;obtain⟨x1,x2⟩:=x;dsimp only at h1;subst h1;clear h2 hwr;gi_wp2;refine⟨Keep.setCell _ _ (by simp) (by simp<;>omega) _,rfl,?_,g3.setCell (p:=⟨w.heap.size,0,none⟩) (by simp) _⟩;rw[HW.out];exact g2.set _
  have e1:((x.2:Int)==0)=false:=by simp;omega
  gi_wp2
  exact⟨Keep.refl _ _ _,fun y hy=>by rcases List.mem_append.1 hy with hy | hy;exact g1 y hy;rw[List.mem_singleton.1 hy];exact h1,g2,g3⟩
 case done=>
  rintro xs W hS ⟨g1,g2,g3⟩ hl hD;rw[hsz]at hl;have hwr:wrongU s= -1:=by
   rcases hS.cases with⟨h,_⟩ | ⟨x,hx,h⟩
   ·unfold wrongU;rw[h]
   exact absurd h (g1 x hx)
  have HW:=hid hwr;clear hwr hS;have c1:=g2.cell;have f1:=g2.frozen;go_wp2;have d1:Boxed (W.setCell ⟨w.heap.size,0,none⟩ (.int .i64 (-1))) w.heap.size 3 (.int .i64 (-1)):=g2.set _;refine ret_mark (v:=.int .i64 (-1)) ?_ (fun w' hw'=>?_)
  ·exact(Below.heap_setCell _ _ _ _ (by simp;omega)).trans hD
  have wp:Wrote [W0.heap.size] (W.setCell ⟨w.heap.size,0,none⟩ (.int .i64 (-1))) w':=by rw[hw'];exact Wrote.putObj _ _ (by simp) _
  have d4:=(wp.boxed (by simp;omega) d1).cell;have hb:Below w.heap.size w (W.setCell ⟨w.heap.size,0,none⟩ (.int .i64 (-1))):=g3.setCell (p:=⟨w.heap.size,0,none⟩) (by simp) _;exact⟨by simp[results,results284,go_sem,d4],by first | rfl | rw[HW.out],hb.trans (wp.below hb.size (by simp;omega))⟩
 case stop=>
  rintro c pre W _ ⟨rfl,g1,g2⟩ hl hD;rw[hsz]at hl;have c1:=g1.cell;have f1:=g1.frozen;go_wp2;have d1:Boxed W w.heap.size 3 (.int .i64 (wrongU s)):=g1;refine ret_mark (v:=.int .i64 (wrongU s)) ?_ (fun w' hw'=>?_)
  ·exact hD
  have wp:Wrote [W0.heap.size] W w':=by rw[hw'];exact Wrote.putObj _ _ (by simp) _
  have d4:=(wp.boxed (by simp;omega) d1).cell;have hb:Below w.heap.size w W:=g2;exact⟨by simp[results,results284,go_sem,d4],by first | rfl | rw[HW.out],hb.trans (wp.below hb.size (by simp;omega))⟩
def checkU(s:List UInt8):Int:=if 0<=wrongU s then 220 else 0
theorem wrongU_lo(s:List UInt8): -1<=wrongU s:=by unfold wrongU;split<;>omega
theorem utf_Check(s:List UInt8)(w:World)(hs:s.length<=1000000):
  Calls prog 241 #[.string ⟨s.toArray⟩] w fun e w'=>e=.returned (.int .i64 (checkU s))/\Below w.heap.size w w':=by
 unfold checkU;by_cases h:0<=wrongU s
 ·rw[if_pos h];go_enter func241,ntmps241;go_wp2_with (go_at_call 284;refine(utf_Wrong s _ hs).mono ?_;rintro e w1 ⟨rfl,hb⟩)
  go_ret;exact⟨rfl,hb⟩
 rw[if_neg h];go_enter func241,ntmps241;go_wp2_with (go_at_call 284;refine(utf_Wrong s _ hs).mono ?_;rintro e w1 ⟨rfl,hb⟩)
 go_ret;exact⟨rfl,hb⟩
end
section
open Go.RowKit Go.Shelf Go.MapKept Go.ChangeMaps
end
section
theorem getObj_m{P:Program}{w:World}{r:Nat}{es:Array MapEntry}{c:Nat}(h:w.heap[r]?=some (.map es c)):(getObj r).run P w=.ok (.map es c) w:=by simp[getObj,Sem.run,h]
theorem getObj_i{P:Program}{w:World}{r:Nat}{m:Option Nat}{s l:Nat}{q:Array Nat}(h:w.heap[r]?=some (.mapIter m s q l)):(getObj r).run P w=.ok (.mapIter m s q l) w:=by simp[getObj,Sem.run,h]
theorem run_range_none{P:Program}{t k e:TypeId}(ht:P.underlying t=some (.map k e)){w:World}{m:Nat}{cl:Nat}(h:w.heap[m]?=some (.map #[] cl)):
  (Instr.range t (.map (some m))).run P w=.ok (.pointer (some ⟨w.heap.size,0,none⟩)) (w.alloc (.mapIter (some m) cl #[] cl)):=by
 simp[Instr.range,run_underlying ht,getObj_m h]
theorem run_next_none{P:Program}{w:World}{r m s l cl:Nat}{ty:TypeId}(hr:w.heap[r]?=some (.mapIter (some m) s #[] l))(h:w.heap[m]?=some (.map #[] cl)):
  (Instr.next (.pointer (some ⟨r,0,none⟩)) false ty).run P w=.ok (.tuple #[.bool false]) w:=by
 have hf:(Question.mapNext 1).forced=true:=by decide
 simp[Instr.next,getObj_i hr,getObj_m h,hf]
theorem run_len_none{P:Program}{t k e:TypeId}(ht:P.underlying t=some (.map k e)){w:World}{b cl:Nat}(h:w.heap[b]?=some (.map #[] cl))(ty:TypeId):(Builtin.len_ #[t] ty #[.map (some b)]).run P w=.ok (.int .i64 0) w:=by simp[Builtin.len_,Builtin.lenOf,run_underlying ht,getObj_m h,goInt]
section
variable {P:Program} {ops:Array Oper} {KQ:Exit->Act->World->Prop} {facts:List Fact} {taken:List Nat} {a:Act} {w:World}
theorem lenQ(i n:Nat){oi:Oper}{x:Operand}{tys:Array TypeId}{u v:Value}{k:Nat}{p:World->Prop}(hi:ops[i]?=some oi)(hop:oi.op=.call {callee:=.builtin .len,args:=#[x],argTypes:=tys})(hx:a.eval x=u)(hf:facts[n]?=some (k,p))
  (hr:∀w',p w'->(Builtin.len_ tys oi.type #[u]).run P w'=.ok v w') (h:atR P ops KQ facts (i::taken) (a.put oi.dst v) w)
  (hB:takeB ops (facts.map (·.1)) taken i=true:=by kernel_rfl) (hw:Region.wanted oi (yielded ops a.tmps)=true:=by kernel_rfl) (hk:waits .any ops k i=true:=by kernel_rfl):atR P ops KQ facts taken a w:=by
 refine readQ i hi hB v hw (fun w' hu=>?_) h;have h1:=hr w' (hu.get k p (List.mem_of_getElem? hf) hk);simp[execOp,hop,resolve,invoke,builtin,hx,h1]
end
end
structure RowV where
 kind:Int
 client:List UInt8
 seq:Int
 id:Int
 topic:List UInt8
 body:List UInt8
 qos:Int
 retain:Bool
 stage:Int
def RowV.vals(r:RowV):Array Value:=#[.int .i64 r.kind,.string ⟨r.client.toArray⟩,.int .i64 r.seq,.int .i64 r.id,.string ⟨r.topic.toArray⟩,.string ⟨r.body.toArray⟩,.int .i64 r.qos,.bool r.retain,.int .i64 r.stage]
theorem rec_within(n a b:Int)(w:World):
  Calls prog 247 #[.int .i64 n,.int .i64 a,.int .i64 b] w fun e w'=>e=.returned (.bool (decide (a<=n)&&decide (n<=b)))/\w=w':=by
 by_cases h:a<=n
 ·go_enter func247,ntmps247;go_wp2;go_ret;simp[h]
 have d:decide (a<=n)=false:=decide_eq_false h;go_enter func247,ntmps247;go_wp2;go_ret;simp[d]
def clientR(s:List UInt8):Bool:= !s.isEmpty&&decide (s.length<=23)&&decide (wrongU s= -1)
theorem rec_client(s:List UInt8)(w:World)(hs:s.length<=9223372036854775807):
  Calls prog 246 #[.string ⟨s.toArray⟩] w fun e w'=>e=.returned (.bool (clientR s))/\Below w.heap.size w w':=by
 have hsz:ByteArray.size ⟨s.toArray⟩=s.length:=by simp[ByteArray.size]
 have fin:∀b:Bool,clientR s=b->Ending.returned (.bool b)=.returned (.bool (clientR s)):=fun b h=>by rw[h]
 have HF:=hid fin;clear fin;by_cases h0:s=[]
 ·subst h0;go_enter func246,ntmps246;go_wp2;go_ret;exact⟨HF _ rfl,Below.refl _ _⟩
 have e0:((⟨s.toArray⟩:ByteArray).toList==(⟨#[]⟩:ByteArray).toList)=false:=by rw[ByteArray.toList_eq,ByteArray.toList_eq];simpa using h0
 have e1:s.isEmpty=false:=by cases s<;>simp at h0 ⊢
 have HS0:=hid h0;clear h0;by_cases h1:s.length<=23
 ·have CC:=hid (utf_Check s w (by omega));by_cases hw:wrongU s= -1
  ·rw[show checkU s=0 by unfold checkU;rw[hw];rfl]at CC;have HB:=hid (show clientR s=true by unfold clientR;rw[e1,hw];simp[h1]);clear hw;go_enter func246,ntmps246;go_wp2_with (go_at_call 241;refine CC.mono ?_;rintro e w1 ⟨rfl,hb⟩)
   go_ret;exact⟨HF _ HB.out,hb⟩
  rw[show checkU s=220 by unfold checkU;rw[if_pos (by have:=wrongU_lo s;omega)]]at CC;have HB:=hid (show clientR s=false by unfold clientR;rw[e1];simp[hw]);clear hw;go_enter func246,ntmps246;go_wp2_with (go_at_call 241;refine CC.mono ?_;rintro e w1 ⟨rfl,hb⟩)
  go_ret;exact⟨HF _ HB.out,hb⟩
 have d1:decide ((s.length:Int)<=23)=false:=decide_eq_false (by omega);have HB:=hid (show clientR s=false by unfold clientR;rw[e1];simp[h1]);clear h1;go_enter func246,ntmps246;go_wp2;go_ret;exact⟨HF _ HB.out,Below.refl _ _⟩
def kindV(s:List UInt8)(a b c:Nat)(p:Bool):Value:=.agg #[.string ⟨s.toArray⟩,.func (.func a) #[] #[],.func (.func b) #[] #[],.func (.func c) #[] #[],.bool p]
def kindsE:Array MapEntry:=#[
 {key:=.int .i64 1,val:=kindV [115,101,115,115,105,111,110] 245 248 249 false,born:=0},
 {key:=.int .i64 2,val:=kindV [115,117,98] 251 252 253 true,born:=1},
 {key:=.int .i64 3,val:=kindV [111,117,116] 255 256 257 false,born:=2},
 {key:=.int .i64 4,val:=kindV [105,110] 259 260 261 false,born:=3},
 {key:=.int .i64 5,val:=kindV [114,101,116,97,105,110] 262 263 264 true,born:=4}]
theorem rec_kinds(w:World):
  Calls prog 223 #[] w fun e w'=>e=.returned (.map (some w.heap.size))/\w'.heap[w.heap.size]?=some (.map kindsE 5)/\Below w.heap.size w w':=by
 have hmm:= @run_makeMap prog;have hb0:(w.alloc (.map #[] 0)).heap[w.heap.size]?=some (.map #[] 0):=by show(w.heap.push _)[w.heap.size]?=_;simp
 have B0:Below w.heap.size w (w.alloc (.map #[] 0)):=(Below.refl _ w).alloc nat_le_rfl _;go_enter func223,ntmps223;go_wp2_with (refine wpList_insert_new _ rfl _ _ _ 262 rfl 133 260 .i64 underlying262 underlying133 _ _ _ rfl (by with_reducible assumption) _ _ rfl rfl (by simp[putE]) ?_;intro w1 hb1 hg1;replace B0:=B0.grown hg1 B0.size (fun k hk=>by cases hk;exact Nat.le_refl _);clear hg1)
 go_ret;refine⟨rfl,?_,B0⟩;rw[hb1];rfl
theorem ref_May(r:Int)(w:World):
  Calls prog 296 #[.int .i32 r] w fun e w'=>e=.returned (.bool (mayR r))/\w=w':=by
 have fin:∀b:Bool,mayR r=b->Ending.returned (.bool b)=.returned (.bool (mayR r)):=fun b h=>by rw[h]
 have HF:=hid fin;clear fin;by_cases h1:0<=r
 ·by_cases h3:r<55296
  ·go_enter func296,ntmps296;go_wp2
   all_goals (go_ret;exact⟨HF _ (by simp[mayR];omega),rfl⟩)
  have d1:decide (r<55296)=false:=decide_eq_false h3;by_cases h4:57343<r
  ·by_cases h2:r<=1114111
   ·go_enter func296,ntmps296;go_wp2
    all_goals (go_ret;exact⟨HF _ (by simp[mayR];omega),rfl⟩)
   have d2:decide (r<=1114111)=false:=decide_eq_false h2;go_enter func296,ntmps296;go_wp2
   all_goals (go_ret;exact⟨HF _ (by simp[mayR];omega),rfl⟩)
  have d3:decide (57343<r)=false:=decide_eq_false h4;go_enter func296,ntmps296;go_wp2
  all_goals (go_ret;exact⟨HF _ (by simp[mayR];omega),rfl⟩)
 have d4:decide (0<=r)=false:=decide_eq_false h1;have d5:decide (57343<r)=false:=decide_eq_false (by omega);go_enter func296,ntmps296;go_wp2
 all_goals (go_ret;exact⟨HF _ (by simp[mayR];omega),rfl⟩)
theorem ref_six(k:Int)(w:World)(h0:0<=k)(hk:k<=1114111):
  Calls prog 323 #[.int .i64 k] w fun e w'=>e=.returned (.int .u8 (128+k%64))/\w=w':=by
 go_enter func323,ntmps323;go_wp2;go_ret;exact⟨rfl,rfl⟩
theorem conv_cells(l:List UInt8)(cs:List Value)(h:cs=bs l)(n:Nat)(hn:cs.length=n)(W:World)(hl:n<=1000):(convert 22 9 (.slice (some ⟨W.heap.size,0,none⟩) n n)).run prog (W.alloc (.cells cs.toArray 5))=.ok (.string ⟨l.toArray⟩) (W.alloc (.cells cs.toArray 5)):=by subst hn h;have h1:=RowAt.new W (bs l).toArray 5 (0,0) (by unfold maxLen;simp;omega);simp only[List.size_toArray,List.toList_toArray]at h1;exact run_str h1
theorem cells_1(m:Nat)(h:m<128):[Value.int .u8 (m:Int)]=bs (encR m):=by
 have he:encR m=[b8 m]:=by unfold encR;rw[if_pos h]
 rw[he];simp only[bs,List.map_cons,List.map_nil,b8_nat m (by omega)]
theorem cells_2(m:Nat)(h:¬m<128)(h2:m<2048):[Value.int .u8 (192+(m:Int) / 64),.int .u8 (128+(m:Int)%64)]=bs (encR m):=by
 have he:encR m=[b8 (192+m / 64),b8 (128+m%64)]:=by unfold encR;rw[if_neg h,if_pos h2]
 rw[he];simp only[bs,List.map_cons,List.map_nil,b8_nat (192+m / 64) (by omega),b8_nat (128+m%64) (by omega)];rfl
theorem cells_3(m:Nat)(h:¬m<2048)(h2:m<65536):[Value.int .u8 (224+(m:Int) / 4096),.int .u8 (128+(m:Int) / 64%64),.int .u8 (128+(m:Int)%64)]=bs (encR m):=by
 have he:encR m=[b8 (224+m / 4096),b8 (128+m / 64%64),b8 (128+m%64)]:=by unfold encR;rw[if_neg (by omega),if_neg h,if_pos h2]
 rw[he];simp only[bs,List.map_cons,List.map_nil,b8_nat (224+m / 4096) (by omega),b8_nat (128+m / 64%64) (by omega),b8_nat (128+m%64) (by omega)];rfl
theorem cells_4(m:Nat)(h:¬m<65536)(h2:m<=1114111):[Value.int .u8 (240+(m:Int) / 262144),.int .u8 (128+(m:Int) / 4096%64),.int .u8 (128+(m:Int) / 64%64),.int .u8 (128+(m:Int)%64)]=bs (encR m):=by
 have he:encR m=[b8 (240+m / 262144),b8 (128+m / 4096%64),b8 (128+m / 64%64),b8 (128+m%64)]:=by unfold encR;rw[if_neg (by omega),if_neg (by omega),if_neg h]
 rw[he];simp only[bs,List.map_cons,List.map_nil,b8_nat (240+m / 262144) (by omega),b8_nat (128+m / 4096%64) (by omega),b8_nat (128+m / 64%64) (by omega),b8_nat (128+m%64) (by omega)];rfl
theorem ref_Raw(m:Nat)(w:World)(hm:m<=1114111):
  Calls prog 297 #[.int .i32 m] w fun e w'=>e=.returned (.string ⟨(encR m).toArray⟩)/\Below w.heap.size w w':=by
 have hb:∀o,Below w.heap.size w (w.alloc o):=fun o=>(Below.refl _ w).alloc nat_le_rfl o;have HB:=hid hb;clear hb;obtain⟨z,hz⟩:∃z:Int,z=m:=⟨_,rfl⟩;rw[<-hz];have HZ:=hid hz;have z0:0<=z:=by omega
 have z1:z<=1114111:=by omega
 by_cases h1:m<128
 ·have hcv:=fun W=>conv_cells (encR m) _ (cells_1 m h1) 1 rfl W (by omega);rw[<-hz]at hcv;have y1:z<128:=by omega
  clear hz hm h1;go_enter func297,ntmps297;go_wp2;go_ret;exact⟨rfl,HB _⟩
 by_cases h2:m<2048
 ·have hcv:=fun W=>conv_cells (encR m) _ (cells_2 m h1 h2) 2 rfl W (by omega);rw[<-hz]at hcv;have y1:128<=z:=by omega
  have y2:z<2048:=by omega
  clear hz hm h1 h2;go_enter func297,ntmps297;go_wp2_with (go_at_call 323;refine(ref_six _ _ (by omega) (by omega)).mono ?_;rintro e w' ⟨rfl,rfl⟩)
  go_ret;exact⟨rfl,HB _⟩
 by_cases h3:m<65536
 ·have hcv:=fun W=>conv_cells (encR m) _ (cells_3 m h2 h3) 3 rfl W (by omega);rw[<-hz]at hcv;have y1:2048<=z:=by omega
  have y2:z<65536:=by omega
  clear hz hm h1 h2 h3;go_enter func297,ntmps297;go_wp2_with (go_at_call 323;refine(ref_six _ _ (by omega) (by omega)).mono ?_;rintro e w' ⟨rfl,rfl⟩)
  go_ret;exact⟨rfl,HB _⟩
 have hcv:=fun W=>conv_cells (encR m) _ (cells_4 m h3 hm) 4 rfl W (by omega);rw[<-hz]at hcv;have y1:65536<=z:=by omega
 clear hz hm h1 h2 h3;go_enter func297,ntmps297;go_wp2_with (go_at_call 323;refine(ref_six _ _ (by omega) (by omega)).mono ?_;rintro e w' ⟨rfl,rfl⟩)
 go_ret;exact⟨rfl,HB _⟩
theorem str_app(x y:List UInt8):(⟨x.toArray⟩:ByteArray)++⟨y.toArray⟩=⟨(x++y).toArray⟩:=by apply ByteArray.ext;simp
def anyR(s:List UInt8):Bool:=Go.Lib.containsAny s [43,35]
def AnyOK(s:List UInt8):Prop:=∀w,Calls prog 192 #[.string ⟨s.toArray⟩,.string ⟨#[43,35]⟩] w fun e w'=>e=.returned (.bool (anyR s))/\Below w.heap.size w w'
def saidR(s:List UInt8):Bool:= !s.isEmpty&&decide (s.length<=200)&&decide (wrongU s= -1)
def nameR(s:List UInt8):Bool:=saidR s&& !anyR s
theorem topic_said(s:List UInt8)(w:World)(hs:s.length<=9223372036854775807):
  Calls prog 193 #[.string ⟨s.toArray⟩] w fun e w'=>e=.returned (.bool (saidR s))/\Below w.heap.size w w':=by
 have hsz:ByteArray.size ⟨s.toArray⟩=s.length:=by simp[ByteArray.size]
 have fin:∀b:Bool,saidR s=b->Ending.returned (.bool b)=.returned (.bool (saidR s)):=fun b h=>by rw[h]
 have HF:=hid fin;clear fin;by_cases h0:s=[]
 ·subst h0;go_enter func193,ntmps193;go_wp2;go_ret;exact⟨HF _ rfl,Below.refl _ _⟩
 have e0:((⟨s.toArray⟩:ByteArray).toList==(⟨#[]⟩:ByteArray).toList)=false:=by rw[ByteArray.toList_eq,ByteArray.toList_eq];simpa using h0
 have e1:s.isEmpty=false:=by cases s<;>simp at h0 ⊢
 have HS0:=hid h0;clear h0;by_cases h1:s.length<=200
 ·have CC:=hid (utf_Check s w (by omega));by_cases hw:wrongU s= -1
  ·rw[show checkU s=0 by unfold checkU;rw[hw];rfl]at CC;have HB:=hid (show saidR s=true by unfold saidR;rw[e1,hw];simp[h1]);clear hw;go_enter func193,ntmps193;go_wp2_with (go_at_call 241;refine CC.mono ?_;rintro e w1 ⟨rfl,hb⟩)
   go_ret;exact⟨HF _ HB.out,hb⟩
  rw[show checkU s=220 by unfold checkU;rw[if_pos (by have:=wrongU_lo s;omega)]]at CC;have HB:=hid (show saidR s=false by unfold saidR;rw[e1];simp[hw]);clear hw;go_enter func193,ntmps193;go_wp2_with (go_at_call 241;refine CC.mono ?_;rintro e w1 ⟨rfl,hb⟩)
  go_ret;exact⟨HF _ HB.out,hb⟩
 have d1:decide ((s.length:Int)<=200)=false:=decide_eq_false (by omega);have HB:=hid (show saidR s=false by unfold saidR;rw[e1];simp[h1]);clear h1;go_enter func193,ntmps193;go_wp2;go_ret;exact⟨HF _ HB.out,Below.refl _ _⟩
theorem topic_Name(s:List UInt8)(w:World)(hs:s.length<=9223372036854775807)(hA:AnyOK s):
  Calls prog 198 #[.string ⟨s.toArray⟩] w fun e w'=>e=.returned (.bool (nameR s))/\Below w.heap.size w w':=by
 have fin:∀b:Bool,nameR s=b->Ending.returned (.bool b)=.returned (.bool (nameR s)):=fun b h=>by rw[h]
 have HF:=hid fin;clear fin;have CS:=hid (topic_said s w hs);have HA:=hid hA;clear hA;have HN:=hid (show nameR s=(saidR s&& !anyR s)from rfl);cases hq:saidR s
 ·rw[hq]at CS HN;clear hq;go_enter func198,ntmps198;go_wp2_with (go_at_call 193;refine CS.mono ?_;rintro e w1 ⟨rfl,hb⟩)
  go_ret;exact⟨HF _ HN.out,hb⟩
 rw[hq]at CS HN;clear hq;have HM:=hid (show nameR s= !anyR s by rw[HN.out];rfl);go_enter func198,ntmps198;go_wp2_with (first | (go_at_call 193;refine CS.mono ?_;rintro e w1 ⟨rfl,hb⟩) | (go_at_call 192;refine(HA _).mono ?_;rintro e w2 ⟨rfl,hb2⟩))
 go_ret;refine⟨HF _ ?_,hb.trans (hb2.mono hb.size)⟩;rw[HM.out]
def mostN(k:Nat):Int:=if k=1 then 128 else if k=2 then 224 else if k=3 then 240 else 248
def leadN(k:Nat):Int:=if k=1 then 0 else if k=2 then 192 else if k=3 then 224 else 240
theorem encR_first(v:Nat)(h:v<=1114111):∃y:Nat,(encR v)[0]?=some (b8 y)/\y<256/\leadN (lenR v)<=y/\y<mostN (lenR v):=by
 unfold encR lenR leadN mostN;by_cases h1:v<128
 ·exact⟨v,by simp[h1],by omega,by simp[h1],by simp[h1];omega⟩
 by_cases h2:v<2048
 ·exact⟨192+v / 64,by simp[h1,h2],by omega,by simp[h1,h2];omega,by simp[h1,h2];omega⟩
 by_cases h3:v<65536
 ·exact⟨224+v / 4096,by simp[h1,h2,h3],by omega,by simp[h1,h2,h3];omega,by simp[h1,h2,h3];omega⟩
 exact⟨240+v / 262144,by simp[h1,h2,h3],by omega,by simp[h1,h2,h3];omega,by simp[h1,h2,h3];omega⟩
theorem okR_lead(k:Nat)(s:List UInt8)(h:okR k s=true):leadN k<=at8 s 0/\(at8 s 0:Int)<mostN k:=by
 obtain⟨h1,h2,h3,h4⟩:=(okR_iff k s).1 h;have h5:=okR_len h;have h6:=(mayR_iff _).1 h3;obtain⟨y,g1,g2,g3,g4⟩:=encR_first (valR k s) (by omega);rw[h5]at g3 g4;have hk:=(lenR_bd (valR k s)).1;rw[h5]at hk;rw[h4,List.getElem?_take_of_lt (by omega)]at g1;have h7:at8 s 0=y:=by unfold at8;rw[g1];exact b8_nat y g2
 rw[h7];exact⟨g3,g4⟩
theorem accV_zero(k:Nat)(s:List UInt8)(h1:1<=k)(h4:k<=4)(hl:leadN k<=at8 s 0)(hm:(at8 s 0:Int)<mostN k):(at8 s 0:Int)-leadN k=accV k s 0:=by
 unfold leadN mostN at*
 simp only[accV,mdR];rcases(show k=1\/k=2\/k=3\/k=4 by omega)with rfl | rfl | rfl | rfl<;>simp at hl hm ⊢<;>omega
theorem ref_May_is(r:Int)(b:Bool)(h:mayR r=b)(w:World):Calls prog 296 #[.int .i32 r] w fun e w'=>e=.returned (.bool b)/\w=w':=h▸ref_May r w
theorem firstF_at(k:Nat)(s:List UInt8)(h1:1<=k)(h4:k<=4)(hno:∀j,1<=j->j<k->okR j s=false)(h:okR k s=true):firstF s=(valR k s,k):=by
 unfold firstF;rcases(show k=1\/k=2\/k=3\/k=4 by omega)with rfl | rfl | rfl | rfl
 ·simp[h]
 ·simp[h,hno 1]
 ·simp[h,hno 1,hno 2]
 simp[h,hno 1,hno 2,hno 3]
theorem ref_First(s:List UInt8)(w:World)(hs:s.length<=140737488355328):
  Calls prog 278 #[.string ⟨s.toArray⟩] w fun e w'=>e=.returned (.tuple #[.int .i32 (firstF s).1,.int .i64 (firstF s).2])/\Below w.heap.size w w':=by
 have hsz:ByteArray.size ⟨s.toArray⟩=s.length:=by simp[ByteArray.size]
 go_enter func278,ntmps278;go_wp2;go_loopw [4,5,6,7,8,9] (fun n _ _ _ _ _ wr=>∃(k:Nat),1<=k/\k<=5/\n=.int .i64 k/\Hid (∀j,1<=j->j<k->okR j s=false)/\Below w.heap.size w wr) (fun n _ _ _ _ _ _=>5-(intOf n).toNat)
 case atStart=>exact⟨1,by omega,by omega,rfl,fun j h1 h2=>by omega,Below.refl _ _⟩
 case round=>
  obtain⟨k,hk1,hk5,rfl,hj,hbel⟩:=hrel;by_cases hin:k<=4/\k<=s.length
  ·obtain⟨hk4,hlen⟩:=hin;have hx0:∀W,(Instr.index 9 (.string ⟨s.toArray⟩) (.int .i64 0)).run prog W=.ok (.int .u8 (at8 s 0)) W:=fun W=>str_idx s 0 (by omega) W;obtain⟨z,hz⟩:∃z:Int,z=at8 s 0:=⟨_,rfl⟩;rw[<-hz]at hx0;have z0:0<=z:=by omega
   have z1:z<256:=by have:=at8_lt s 0;omega
   have HZ:=hid hz;clear hz;have next:okR k s=false->∀j,1<=j->j<k+1->okR j s=false:=fun h j h1 h2=>by
    rcases Nat.lt_or_ge j k with h3 | h3
    ·exact hj.out j h1 h3
    obtain rfl:j=k:=by omega
    exact h
   have NX:=hid next;clear next;have OL:=hid (okR_lead k s)
   have AZ:=hid (accV_zero k s hk1 hk4);rw[<-HZ.out]at OL AZ;have hcases:(((k:Int)==2)=false/\((k:Int)==3)=false/\((k:Int)==4)=false/\leadN k=0/\mostN k=128)\/
     (((k:Int)==2)=true/\((k:Int)==3)=false/\((k:Int)==4)=false/\leadN k=192/\mostN k=224)\/
     (((k:Int)==2)=false/\((k:Int)==3)=true/\((k:Int)==4)=false/\leadN k=224/\mostN k=240)\/
     (((k:Int)==2)=false/\((k:Int)==3)=false/\((k:Int)==4)=true/\leadN k=240/\mostN k=248):=by
    rcases(show k=1\/k=2\/k=3\/k=4 by omega)with rfl | rfl | rfl | rfl
    ·exact .inl ⟨rfl,rfl,rfl,rfl,rfl⟩
    ·exact .inr (.inl ⟨rfl,rfl,rfl,rfl,rfl⟩)
    ·exact .inr (.inr (.inl ⟨rfl,rfl,rfl,rfl,rfl⟩))
    exact .inr (.inr (.inr ⟨rfl,rfl,rfl,rfl,rfl⟩))
   rcases hcases with⟨e2,e3,e4,hL,hM⟩ | ⟨e2,e3,e4,hL,hM⟩ | ⟨e2,e3,e4,hL,hM⟩ | ⟨e2,e3,e4,hL,hM⟩
   all_goals
    rw[hL]at OL AZ;rw[hM]at OL AZ;clear hL hM
   ·have d1:decide (z<0)=false:=decide_eq_false (by omega);by_cases c2:128<=z
    ·have d2:decide (128<=z)=true:=decide_eq_true c2;go_wp2;go_roundw
     case rel=>exact⟨k+1,by omega,by omega,by go_num,NX (Bool.eq_false_iff.2 fun h=>by have:=OL h;omega),hbel⟩
     case measure=>simp[intOf];omega
    have d2:decide (128<=z)=false:=decide_eq_false c2;have HQ:=hid (AZ (by omega) (by omega));clear AZ OL;go_wp2;go_loop [8,9] (fun r i=>∃(j:Nat)(q:Int),1<=j/\j<=k/\i=.int .i64 j/\r=.int .i32 q/\0<=q/\q<67108864/\Hid (q=accV k s (j-1))) (fun _ i=>k-(intOf i).toNat)
    case atStart=>exact⟨1,z,by omega,hk1,rfl,rfl,by omega,by omega,hid (by have:=HQ.out;simpa using this)⟩
    case round=>
     obtain⟨j,q,hj1,hjk,rfl,rfl,hq0,hq1,HA⟩:=hrel;clear hx0 e2 e3 e4 d1 d2;by_cases hjl:j<k
     ·have hx:∀W,(Instr.index 9 (.string ⟨s.toArray⟩) (.int .i64 j)).run prog W=.ok (.int .u8 (at8 s j)) W:=fun W=>str_idx s j (by omega) W;have hv2:=accV_lt k s j (by omega);have hrec:accV k s j=accV k s (j-1)*64+at8 s j%64:=by obtain⟨j',rfl⟩:∃j',j=j'+1:=⟨j-1,by omega⟩;rfl
      obtain⟨y,hy⟩:∃y:Int,y=at8 s j:=⟨_,rfl⟩;rw[<-hy]at hx;have y0:0<=y:=by omega
      have y1:y<256:=by have:=at8_lt s j;omega
      have hq64:64*q+y%64<67108864:=by have:=HA.out;omega
      have HN:=hid (show 64*q+y%64=accV k s (j+1-1) by rw[Nat.add_sub_cancel];have:=HA.out;omega);clear hy hrec hv2;go_wp2
      go_round
      case rel=>exact⟨j+1,64*q+y%64,by omega,by omega,by go_num,rfl,by omega,hq64,HN.out⟩
      case measure=>simp[intOf];omega
     obtain rfl:j=k:=by omega
     clear HQ HZ;have hqv:q=(valR j s:Int):=by rw[HA.out,accV_val j s hj1 hk4]
     clear HA;have hok:=okR_iff j s;have hvl:=valR_lt j s;generalize hvv:valR j s=v at*
     have HV:=hid hvv;clear hvv;have CR:=hid (fun W h=>ref_Raw v W h);rw[<-hqv]at CR;have CM:=hid (fun b (h:mayR q=b) W=>ref_May_is q b h W);have hct2:=fun W=>str_to s j hlen W;have HK:=hid hok;have HQV:=hid hqv;clear hok hqv hvl;by_cases hq:q=0
     ·have dq:decide (0<q)=false:=decide_eq_false (by omega);have HQ0:=hid hq;clear hq;go_wp2;refine regionQ [] (by kernel_rfl) trivial fun KQ hKQ=>?_;refine tQ [0,1,2] ?_;refine uQ 3 ?_;refine uQ 4 ?_;refine tQ [5,6] ?_;refine uQ 7 ?_;refine uQ 8 ?_;refine uQ 9 ?_;refine uQ 10 ?_;refine uQ 11 ?_;refine uQ 12 ?_;refine tQ [13] ?_;refine dQ (hKQ.out _ _ ?_);clear hKQ KQ;go_wp2;go_roundw
      case rel=>exact⟨j+1,by omega,by omega,by go_num,NX (Bool.eq_false_iff.2 fun h=>(HK.1 h).2.1 (by have:=HQV.out;have:=HQ0.out;omega)),hbel.drew⟩
      case measure=>simp[intOf];omega
     have dq:decide (0<q)=true:=decide_eq_true (by omega);go_wp2;refine regionQ [] (by kernel_rfl) trivial fun KQ hKQ=>?_;refine tQ [0,1,2,3] ?_;refine sN 4 fun K hK=>?_;simp only[GO];go_simp;cases hmy:mayR q
     ·refine(CM _ hmy _).mono ?_;rintro e w5 ⟨rfl,rfl⟩;refine hK _ _ ?_;clear hK K;try simp only[PT]
      refine tQ [5,6] ?_;refine uQ 7 ?_;refine uQ 8 ?_;refine uQ 9 ?_;refine uQ 10 ?_;refine uQ 11 ?_;refine uQ 12 ?_;refine tQ [13] ?_;refine dQ (hKQ.out _ _ ?_);clear hKQ KQ;go_wp2;go_roundw
      case rel=>exact⟨j+1,by omega,by omega,by go_num,NX (Bool.eq_false_iff.2 fun h=>by have h1:=(HK.1 h).2.2.1;rw[<-HQV.out,hmy]at h1;cases h1),hbel.drew⟩
      case measure=>simp[intOf];omega
     refine(CM _ hmy _).mono ?_;rintro e w5 ⟨rfl,rfl⟩;refine hK _ _ ?_;clear hK K;try simp only[PT]
     refine tQ [5,6,7,9,10,11] ?_;refine sN 8 fun K hK=>?_;simp only[GO];go_simp;refine(CR _ (by have:=(mayR_iff q).1 hmy;have:=HQV.out;omega)).mono ?_;rintro e w6 ⟨rfl,hb6⟩;have hbel6:=hbel.drew.trans (hb6.mono hbel.drew.size);refine hK _ _ ?_;clear hK K;try simp only[PT]
     by_cases hE:encR v=s.take j
     ·rw[hE];refine tQ [12,13] ?_;refine dQ (hKQ.out _ _ ?_);clear hKQ KQ;go_wp2;refine bodyPost_ret (v:=.tuple #[.int .i32 q,.int .i64 j]) (by simp[results,results278,go_sem]) rfl ⟨?_,hbel6⟩;have hokk:okR j s=true:=HK.2 ⟨hlen,by have:=HQV.out;omega,by rw[<-HQV.out];exact hmy,hE⟩;rw[firstF_at j s hk1 hk4 hj.out hokk,HV.out,HQV.out]
     have hE2:((⟨(encR v).toArray⟩:ByteArray).toList==(⟨(s.take j).toArray⟩:ByteArray).toList)=false:=by rw[ByteArray.toList_eq,ByteArray.toList_eq];simpa using hE
     have hE3:(encR v==s.take j)=false:=by simpa using hE
     refine tQ [12,13] ?_;refine dQ (hKQ.out _ _ ?_);clear hKQ KQ;go_wp2;go_roundw
     case rel=>exact⟨j+1,by omega,by omega,by go_num,NX (Bool.eq_false_iff.2 fun h=>hE (HK.1 h).2.2.2),hbel6⟩
     case measure=>simp[intOf];omega
   ·by_cases c1:z<192
    ·have d1:decide (z<192)=true:=decide_eq_true c1;go_wp2;go_roundw
     case rel=>exact⟨k+1,by omega,by omega,by go_num,NX (Bool.eq_false_iff.2 fun h=>by have:=OL h;omega),hbel⟩
     case measure=>simp[intOf];omega
    have d1:decide (z<192)=false:=decide_eq_false c1;by_cases c2:224<=z
    ·have d2:decide (224<=z)=true:=decide_eq_true c2;go_wp2;go_roundw
     case rel=>exact⟨k+1,by omega,by omega,by go_num,NX (Bool.eq_false_iff.2 fun h=>by have:=OL h;omega),hbel⟩
     case measure=>simp[intOf];omega
    have d2:decide (224<=z)=false:=decide_eq_false c2;have HQ:=hid (AZ (by omega) (by omega));clear AZ OL;go_wp2;go_loop [8,9] (fun r i=>∃(j:Nat)(q:Int),1<=j/\j<=k/\i=.int .i64 j/\r=.int .i32 q/\0<=q/\q<67108864/\Hid (q=accV k s (j-1))) (fun _ i=>k-(intOf i).toNat)
    case atStart=>exact⟨1,z-192,by omega,hk1,rfl,rfl,by omega,by omega,hid (by have:=HQ.out;simpa using this)⟩
    case round=>
     obtain⟨j,q,hj1,hjk,rfl,rfl,hq0,hq1,HA⟩:=hrel;clear hx0 e2 e3 e4 d1 d2;by_cases hjl:j<k
     ·have hx:∀W,(Instr.index 9 (.string ⟨s.toArray⟩) (.int .i64 j)).run prog W=.ok (.int .u8 (at8 s j)) W:=fun W=>str_idx s j (by omega) W;have hv2:=accV_lt k s j (by omega);have hrec:accV k s j=accV k s (j-1)*64+at8 s j%64:=by obtain⟨j',rfl⟩:∃j',j=j'+1:=⟨j-1,by omega⟩;rfl
      obtain⟨y,hy⟩:∃y:Int,y=at8 s j:=⟨_,rfl⟩;rw[<-hy]at hx;have y0:0<=y:=by omega
      have y1:y<256:=by have:=at8_lt s j;omega
      have hq64:64*q+y%64<67108864:=by have:=HA.out;omega
      have HN:=hid (show 64*q+y%64=accV k s (j+1-1) by rw[Nat.add_sub_cancel];have:=HA.out;omega);clear hy hrec hv2;go_wp2
      go_round
      case rel=>exact⟨j+1,64*q+y%64,by omega,by omega,by go_num,rfl,by omega,hq64,HN.out⟩
      case measure=>simp[intOf];omega
     obtain rfl:j=k:=by omega
     clear HQ HZ;have hqv:q=(valR j s:Int):=by rw[HA.out,accV_val j s hj1 hk4]
     clear HA;have hok:=okR_iff j s;have hvl:=valR_lt j s;generalize hvv:valR j s=v at*
     have HV:=hid hvv;clear hvv;have CR:=hid (fun W h=>ref_Raw v W h);rw[<-hqv]at CR;have CM:=hid (fun b (h:mayR q=b) W=>ref_May_is q b h W);have hct2:=fun W=>str_to s j hlen W;have HK:=hid hok;have HQV:=hid hqv;clear hok hqv hvl;by_cases hq:q=0
     ·have dq:decide (0<q)=false:=decide_eq_false (by omega);have HQ0:=hid hq;clear hq;go_wp2;refine regionQ [] (by kernel_rfl) trivial fun KQ hKQ=>?_;refine tQ [0,1,2] ?_;refine uQ 3 ?_;refine uQ 4 ?_;refine tQ [5,6] ?_;refine uQ 7 ?_;refine uQ 8 ?_;refine uQ 9 ?_;refine uQ 10 ?_;refine uQ 11 ?_;refine uQ 12 ?_;refine tQ [13] ?_;refine dQ (hKQ.out _ _ ?_);clear hKQ KQ;go_wp2;go_roundw
      case rel=>exact⟨j+1,by omega,by omega,by go_num,NX (Bool.eq_false_iff.2 fun h=>(HK.1 h).2.1 (by have:=HQV.out;have:=HQ0.out;omega)),hbel.drew⟩
      case measure=>simp[intOf];omega
     have dq:decide (0<q)=true:=decide_eq_true (by omega);go_wp2;refine regionQ [] (by kernel_rfl) trivial fun KQ hKQ=>?_;refine tQ [0,1,2,3] ?_;refine sN 4 fun K hK=>?_;simp only[GO];go_simp;cases hmy:mayR q
     ·refine(CM _ hmy _).mono ?_;rintro e w5 ⟨rfl,rfl⟩;refine hK _ _ ?_;clear hK K;try simp only[PT]
      refine tQ [5,6] ?_;refine uQ 7 ?_;refine uQ 8 ?_;refine uQ 9 ?_;refine uQ 10 ?_;refine uQ 11 ?_;refine uQ 12 ?_;refine tQ [13] ?_;refine dQ (hKQ.out _ _ ?_);clear hKQ KQ;go_wp2;go_roundw
      case rel=>exact⟨j+1,by omega,by omega,by go_num,NX (Bool.eq_false_iff.2 fun h=>by have h1:=(HK.1 h).2.2.1;rw[<-HQV.out,hmy]at h1;cases h1),hbel.drew⟩
      case measure=>simp[intOf];omega
     refine(CM _ hmy _).mono ?_;rintro e w5 ⟨rfl,rfl⟩;refine hK _ _ ?_;clear hK K;try simp only[PT]
     refine tQ [5,6,7,9,10,11] ?_;refine sN 8 fun K hK=>?_;simp only[GO];go_simp;refine(CR _ (by have:=(mayR_iff q).1 hmy;have:=HQV.out;omega)).mono ?_;rintro e w6 ⟨rfl,hb6⟩;have hbel6:=hbel.drew.trans (hb6.mono hbel.drew.size);refine hK _ _ ?_;clear hK K;try simp only[PT]
     by_cases hE:encR v=s.take j
     ·rw[hE];refine tQ [12,13] ?_;refine dQ (hKQ.out _ _ ?_);clear hKQ KQ;go_wp2;refine bodyPost_ret (v:=.tuple #[.int .i32 q,.int .i64 j]) (by simp[results,results278,go_sem]) rfl ⟨?_,hbel6⟩;have hokk:okR j s=true:=HK.2 ⟨hlen,by have:=HQV.out;omega,by rw[<-HQV.out];exact hmy,hE⟩;rw[firstF_at j s hk1 hk4 hj.out hokk,HV.out,HQV.out]
     have hE2:((⟨(encR v).toArray⟩:ByteArray).toList==(⟨(s.take j).toArray⟩:ByteArray).toList)=false:=by rw[ByteArray.toList_eq,ByteArray.toList_eq];simpa using hE
     have hE3:(encR v==s.take j)=false:=by simpa using hE
     refine tQ [12,13] ?_;refine dQ (hKQ.out _ _ ?_);clear hKQ KQ;go_wp2;go_roundw
     case rel=>exact⟨j+1,by omega,by omega,by go_num,NX (Bool.eq_false_iff.2 fun h=>hE (HK.1 h).2.2.2),hbel6⟩
     case measure=>simp[intOf];omega
   ·by_cases c1:z<224
    ·have d1:decide (z<224)=true:=decide_eq_true c1;go_wp2;go_roundw
     case rel=>exact⟨k+1,by omega,by omega,by go_num,NX (Bool.eq_false_iff.2 fun h=>by have:=OL h;omega),hbel⟩
     case measure=>simp[intOf];omega
    have d1:decide (z<224)=false:=decide_eq_false c1;by_cases c2:240<=z
    ·have d2:decide (240<=z)=true:=decide_eq_true c2;go_wp2;go_roundw
     case rel=>exact⟨k+1,by omega,by omega,by go_num,NX (Bool.eq_false_iff.2 fun h=>by have:=OL h;omega),hbel⟩
     case measure=>simp[intOf];omega
    have d2:decide (240<=z)=false:=decide_eq_false c2;have HQ:=hid (AZ (by omega) (by omega));clear AZ OL;go_wp2;go_loop [8,9] (fun r i=>∃(j:Nat)(q:Int),1<=j/\j<=k/\i=.int .i64 j/\r=.int .i32 q/\0<=q/\q<67108864/\Hid (q=accV k s (j-1))) (fun _ i=>k-(intOf i).toNat)
    case atStart=>exact⟨1,z-224,by omega,hk1,rfl,rfl,by omega,by omega,hid (by have:=HQ.out;simpa using this)⟩
    case round=>
     obtain⟨j,q,hj1,hjk,rfl,rfl,hq0,hq1,HA⟩:=hrel;clear hx0 e2 e3 e4 d1 d2;by_cases hjl:j<k
     ·have hx:∀W,(Instr.index 9 (.string ⟨s.toArray⟩) (.int .i64 j)).run prog W=.ok (.int .u8 (at8 s j)) W:=fun W=>str_idx s j (by omega) W;have hv2:=accV_lt k s j (by omega);have hrec:accV k s j=accV k s (j-1)*64+at8 s j%64:=by obtain⟨j',rfl⟩:∃j',j=j'+1:=⟨j-1,by omega⟩;rfl
      obtain⟨y,hy⟩:∃y:Int,y=at8 s j:=⟨_,rfl⟩;rw[<-hy]at hx;have y0:0<=y:=by omega
      have y1:y<256:=by have:=at8_lt s j;omega
      have hq64:64*q+y%64<67108864:=by have:=HA.out;omega
      have HN:=hid (show 64*q+y%64=accV k s (j+1-1) by rw[Nat.add_sub_cancel];have:=HA.out;omega);clear hy hrec hv2;go_wp2
      go_round
      case rel=>exact⟨j+1,64*q+y%64,by omega,by omega,by go_num,rfl,by omega,hq64,HN.out⟩
      case measure=>simp[intOf];omega
     obtain rfl:j=k:=by omega
     clear HQ HZ;have hqv:q=(valR j s:Int):=by rw[HA.out,accV_val j s hj1 hk4]
     clear HA;have hok:=okR_iff j s;have hvl:=valR_lt j s;generalize hvv:valR j s=v at*
     have HV:=hid hvv;clear hvv;have CR:=hid (fun W h=>ref_Raw v W h);rw[<-hqv]at CR;have CM:=hid (fun b (h:mayR q=b) W=>ref_May_is q b h W);have hct2:=fun W=>str_to s j hlen W;have HK:=hid hok;have HQV:=hid hqv;clear hok hqv hvl;by_cases hq:q=0
     ·have dq:decide (0<q)=false:=decide_eq_false (by omega);have HQ0:=hid hq;clear hq;go_wp2;refine regionQ [] (by kernel_rfl) trivial fun KQ hKQ=>?_;refine tQ [0,1,2] ?_;refine uQ 3 ?_;refine uQ 4 ?_;refine tQ [5,6] ?_;refine uQ 7 ?_;refine uQ 8 ?_;refine uQ 9 ?_;refine uQ 10 ?_;refine uQ 11 ?_;refine uQ 12 ?_;refine tQ [13] ?_;refine dQ (hKQ.out _ _ ?_);clear hKQ KQ;go_wp2;go_roundw
      case rel=>exact⟨j+1,by omega,by omega,by go_num,NX (Bool.eq_false_iff.2 fun h=>(HK.1 h).2.1 (by have:=HQV.out;have:=HQ0.out;omega)),hbel.drew⟩
      case measure=>simp[intOf];omega
     have dq:decide (0<q)=true:=decide_eq_true (by omega);go_wp2;refine regionQ [] (by kernel_rfl) trivial fun KQ hKQ=>?_;refine tQ [0,1,2,3] ?_;refine sN 4 fun K hK=>?_;simp only[GO];go_simp;cases hmy:mayR q
     ·refine(CM _ hmy _).mono ?_;rintro e w5 ⟨rfl,rfl⟩;refine hK _ _ ?_;clear hK K;try simp only[PT]
      refine tQ [5,6] ?_;refine uQ 7 ?_;refine uQ 8 ?_;refine uQ 9 ?_;refine uQ 10 ?_;refine uQ 11 ?_;refine uQ 12 ?_;refine tQ [13] ?_;refine dQ (hKQ.out _ _ ?_);clear hKQ KQ;go_wp2;go_roundw
      case rel=>exact⟨j+1,by omega,by omega,by go_num,NX (Bool.eq_false_iff.2 fun h=>by have h1:=(HK.1 h).2.2.1;rw[<-HQV.out,hmy]at h1;cases h1),hbel.drew⟩
      case measure=>simp[intOf];omega
     refine(CM _ hmy _).mono ?_;rintro e w5 ⟨rfl,rfl⟩;refine hK _ _ ?_;clear hK K;try simp only[PT]
     refine tQ [5,6,7,9,10,11] ?_;refine sN 8 fun K hK=>?_;simp only[GO];go_simp;refine(CR _ (by have:=(mayR_iff q).1 hmy;have:=HQV.out;omega)).mono ?_;rintro e w6 ⟨rfl,hb6⟩;have hbel6:=hbel.drew.trans (hb6.mono hbel.drew.size);refine hK _ _ ?_;clear hK K;try simp only[PT]
     by_cases hE:encR v=s.take j
     ·rw[hE];refine tQ [12,13] ?_;refine dQ (hKQ.out _ _ ?_);clear hKQ KQ;go_wp2;refine bodyPost_ret (v:=.tuple #[.int .i32 q,.int .i64 j]) (by simp[results,results278,go_sem]) rfl ⟨?_,hbel6⟩;have hokk:okR j s=true:=HK.2 ⟨hlen,by have:=HQV.out;omega,by rw[<-HQV.out];exact hmy,hE⟩;rw[firstF_at j s hk1 hk4 hj.out hokk,HV.out,HQV.out]
     have hE2:((⟨(encR v).toArray⟩:ByteArray).toList==(⟨(s.take j).toArray⟩:ByteArray).toList)=false:=by rw[ByteArray.toList_eq,ByteArray.toList_eq];simpa using hE
     have hE3:(encR v==s.take j)=false:=by simpa using hE
     refine tQ [12,13] ?_;refine dQ (hKQ.out _ _ ?_);clear hKQ KQ;go_wp2;go_roundw
     case rel=>exact⟨j+1,by omega,by omega,by go_num,NX (Bool.eq_false_iff.2 fun h=>hE (HK.1 h).2.2.2),hbel6⟩
     case measure=>simp[intOf];omega
   skip;by_cases c1:z<240
   ·have d1:decide (z<240)=true:=decide_eq_true c1;go_wp2;go_roundw
    case rel=>exact⟨k+1,by omega,by omega,by go_num,NX (Bool.eq_false_iff.2 fun h=>by have:=OL h;omega),hbel⟩
    case measure=>simp[intOf];omega
   have d1:decide (z<240)=false:=decide_eq_false c1;by_cases c2:248<=z
   ·have d2:decide (248<=z)=true:=decide_eq_true c2;go_wp2;go_roundw
    case rel=>exact⟨k+1,by omega,by omega,by go_num,NX (Bool.eq_false_iff.2 fun h=>by have:=OL h;omega),hbel⟩
    case measure=>simp[intOf];omega
   have d2:decide (248<=z)=false:=decide_eq_false c2;have HQ:=hid (AZ (by omega) (by omega));clear AZ OL;go_wp2;go_loop [8,9] (fun r i=>∃(j:Nat)(q:Int),1<=j/\j<=k/\i=.int .i64 j/\r=.int .i32 q/\0<=q/\q<67108864/\Hid (q=accV k s (j-1))) (fun _ i=>k-(intOf i).toNat)
   case atStart=>exact⟨1,z-240,by omega,hk1,rfl,rfl,by omega,by omega,hid (by have:=HQ.out;simpa using this)⟩
   case round=>
    obtain⟨j,q,hj1,hjk,rfl,rfl,hq0,hq1,HA⟩:=hrel;clear hx0 e2 e3 e4 d1 d2;by_cases hjl:j<k
    ·have hx:∀W,(Instr.index 9 (.string ⟨s.toArray⟩) (.int .i64 j)).run prog W=.ok (.int .u8 (at8 s j)) W:=fun W=>str_idx s j (by omega) W;have hv2:=accV_lt k s j (by omega);have hrec:accV k s j=accV k s (j-1)*64+at8 s j%64:=by obtain⟨j',rfl⟩:∃j',j=j'+1:=⟨j-1,by omega⟩;rfl
     obtain⟨y,hy⟩:∃y:Int,y=at8 s j:=⟨_,rfl⟩;rw[<-hy]at hx;have y0:0<=y:=by omega
     have y1:y<256:=by have:=at8_lt s j;omega
     have hq64:64*q+y%64<67108864:=by have:=HA.out;omega
     have HN:=hid (show 64*q+y%64=accV k s (j+1-1) by rw[Nat.add_sub_cancel];have:=HA.out;omega);clear hy hrec hv2;go_wp2
     go_round
     case rel=>exact⟨j+1,64*q+y%64,by omega,by omega,by go_num,rfl,by omega,hq64,HN.out⟩
     case measure=>simp[intOf];omega
    obtain rfl:j=k:=by omega
    clear HQ HZ;have hqv:q=(valR j s:Int):=by rw[HA.out,accV_val j s hj1 hk4]
    clear HA;have hok:=okR_iff j s;have hvl:=valR_lt j s;generalize hvv:valR j s=v at*
    have HV:=hid hvv;clear hvv;have CR:=hid (fun W h=>ref_Raw v W h);rw[<-hqv]at CR;have CM:=hid (fun b (h:mayR q=b) W=>ref_May_is q b h W);have hct2:=fun W=>str_to s j hlen W;have HK:=hid hok;have HQV:=hid hqv;clear hok hqv hvl;by_cases hq:q=0
    ·have dq:decide (0<q)=false:=decide_eq_false (by omega);have HQ0:=hid hq;clear hq;go_wp2;refine regionQ [] (by kernel_rfl) trivial fun KQ hKQ=>?_;refine tQ [0,1,2] ?_;refine uQ 3 ?_;refine uQ 4 ?_;refine tQ [5,6] ?_;refine uQ 7 ?_;refine uQ 8 ?_;refine uQ 9 ?_;refine uQ 10 ?_;refine uQ 11 ?_;refine uQ 12 ?_;refine tQ [13] ?_;refine dQ (hKQ.out _ _ ?_);clear hKQ KQ;go_wp2;go_roundw
     case rel=>exact⟨j+1,by omega,by omega,by go_num,NX (Bool.eq_false_iff.2 fun h=>(HK.1 h).2.1 (by have:=HQV.out;have:=HQ0.out;omega)),hbel.drew⟩
     case measure=>simp[intOf];omega
    have dq:decide (0<q)=true:=decide_eq_true (by omega);go_wp2;refine regionQ [] (by kernel_rfl) trivial fun KQ hKQ=>?_;refine tQ [0,1,2,3] ?_;refine sN 4 fun K hK=>?_;simp only[GO];go_simp;cases hmy:mayR q
    ·refine(CM _ hmy _).mono ?_;rintro e w5 ⟨rfl,rfl⟩;refine hK _ _ ?_;clear hK K;try simp only[PT]
     refine tQ [5,6] ?_;refine uQ 7 ?_;refine uQ 8 ?_;refine uQ 9 ?_;refine uQ 10 ?_;refine uQ 11 ?_;refine uQ 12 ?_;refine tQ [13] ?_;refine dQ (hKQ.out _ _ ?_);clear hKQ KQ;go_wp2;go_roundw
     case rel=>exact⟨j+1,by omega,by omega,by go_num,NX (Bool.eq_false_iff.2 fun h=>by have h1:=(HK.1 h).2.2.1;rw[<-HQV.out,hmy]at h1;cases h1),hbel.drew⟩
     case measure=>simp[intOf];omega
    refine(CM _ hmy _).mono ?_;rintro e w5 ⟨rfl,rfl⟩;refine hK _ _ ?_;clear hK K;try simp only[PT]
    refine tQ [5,6,7,9,10,11] ?_;refine sN 8 fun K hK=>?_;simp only[GO];go_simp;refine(CR _ (by have:=(mayR_iff q).1 hmy;have:=HQV.out;omega)).mono ?_;rintro e w6 ⟨rfl,hb6⟩;have hbel6:=hbel.drew.trans (hb6.mono hbel.drew.size);refine hK _ _ ?_;clear hK K;try simp only[PT]
    by_cases hE:encR v=s.take j
    ·rw[hE];refine tQ [12,13] ?_;refine dQ (hKQ.out _ _ ?_);clear hKQ KQ;go_wp2;refine bodyPost_ret (v:=.tuple #[.int .i32 q,.int .i64 j]) (by simp[results,results278,go_sem]) rfl ⟨?_,hbel6⟩;have hokk:okR j s=true:=HK.2 ⟨hlen,by have:=HQV.out;omega,by rw[<-HQV.out];exact hmy,hE⟩;rw[firstF_at j s hk1 hk4 hj.out hokk,HV.out,HQV.out]
    have hE2:((⟨(encR v).toArray⟩:ByteArray).toList==(⟨(s.take j).toArray⟩:ByteArray).toList)=false:=by rw[ByteArray.toList_eq,ByteArray.toList_eq];simpa using hE
    have hE3:(encR v==s.take j)=false:=by simpa using hE
    refine tQ [12,13] ?_;refine dQ (hKQ.out _ _ ?_);clear hKQ KQ;go_wp2;go_roundw
    case rel=>exact⟨j+1,by omega,by omega,by go_num,NX (Bool.eq_false_iff.2 fun h=>hE (HK.1 h).2.2.2),hbel6⟩
    case measure=>simp[intOf];omega
  have hall:firstF s=(0,0):=by
   have h:∀n,1<=n->n<=4->okR n s=false:=fun n h1 h4=>by
    rcases Nat.lt_or_ge n k with h2 | h2
    ·exact hj.out n h1 h2
    exact Bool.eq_false_iff.2 fun h=>by have:=((okR_iff n s).1 h).1;omega
   unfold firstF;simp[h 1,h 2,h 3,h 4]
  have HA:=hid hall;clear hall;rcases(show k=5\/(k<=4/\s.length<k) by omega)with rfl | ⟨h1,h2⟩
  ·go_wp2;refine bodyPost_ret (v:=.tuple #[.int .i32 0,.int .i64 0]) (by simp[results,results278,go_sem]) rfl ⟨?_,hbel⟩;rw[HA.out];rfl
  have d1:¬(4:Int)<(k:Int):=by omega
  go_wp2;refine bodyPost_ret (v:=.tuple #[.int .i32 0,.int .i64 0]) (by simp[results,results278,go_sem]) rfl ⟨?_,hbel⟩;rw[HA.out];rfl
theorem rec_within_b(n a b:Int)(v:Bool)(h:(decide (a<=n)&&decide (n<=b))=v)(w:World):
  Calls prog 247 #[.int .i64 n,.int .i64 a,.int .i64 b] w fun e w'=>e=.returned (.bool v)/\w=w':=by
 have:=rec_within n a b w
 rwa [h]at this
theorem cellB{w w1:World}{cs:Array Value}{T:Nat}(hb:Below (w.alloc (.cells cs T)).heap.size (w.alloc (.cells cs T)) w1){j:Nat}{v:Value}(hv:cs[j]?=some v):
  w1.cell? ⟨w.heap.size,j,none⟩=some v:=by
 rw[hb.cell (by simp[World.size_alloc])];exact(World.cell?_alloc_at _ _ _ _ rfl).trans hv
theorem cB{w w1:World}{cs:Array Value}{T:Nat}(hb:Below (w.alloc (.cells cs T)).heap.size (w.alloc (.cells cs T)) w1)(j:Nat){v:Value}(hv:cs[j]?=some v):∀o,(w1.alloc o).cell? ⟨w.heap.size,j,none⟩=some v:=
 fun o=>cellB (hb.alloc hb.size o) hv
def putMay(r:RowV):Bool:=clientR r.client&&(decide (0<=r.seq)&&decide (r.seq<=4611686018427387904))&&nameR r.topic&&decide ((r.body.length:Int)<=2000)&&(decide (1<=r.qos)&&decide (r.qos<=2))
end Go.Proofs.YtkghejaimhoboaaGreatDoor
