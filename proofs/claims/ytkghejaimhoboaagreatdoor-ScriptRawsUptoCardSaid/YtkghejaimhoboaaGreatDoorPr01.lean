/- Parts of the proof of ScriptRaws. -/
import Derived.WalkKit
import Derived.WalkSpells
import Derived.WalkLawsBesides
import Derived.Deep.LoopGhost
import Derived.RangeFuncNested
import Derived.RangeFuncBound
import Derived.RangeFuncCalls
import Derived.RangeFuncLeaves
import Derived.OwnWalkIn
import Derived.Shelf.Abstract
import Derived.Shelf.RegionOpen
import Derived.TacticsInMore
import Derived.LoopNIn
import Derived.LoopIn
import Derived.ScopeJumps
import Derived.WalkMore
import Derived.BigQuiet
import Derived.Deep.QuietTactic
import Derived.Deep.RegionWith
import Derived.Test.YtkghejaimhoboaaGreatDoorProg
import Derived.Deep.RegionHeld3
import Derived.Laws.FloatArith
import Derived.Laws.Bits128
import Derived.Lib.TrailingZeros
set_option linter.unusedSimpArgs false
set_option linter.unusedVariables false
set_option maxRecDepth 100000
set_option maxHeartbeats 8000000
namespace Go.Proofs.YtkghejaimhoboaaGreatDoor
open Go.RowKit Go.Shelf Go.Proofs.Tryz
theorem gen_of{α:Sort _}(a:α):∃x,a=x:=⟨_,rfl⟩
theorem bel_refl{n:Nat}{w:World}:Below n w w:=Below.refl _ _
theorem nat_le_rfl{n:Nat}:n<=n:=Nat.le_refl _
section
theorem hid{p:Prop}(h:p):Hid p:=h
def bs(l:List UInt8):List Value:=l.map fun x=>.int .u8 x.toNat
def ns(k:IntKind)(l:List Int):List Value:=l.map (.int k)
structure RowAt (w:World)(a:Option Addr)(n cap:Nat)(cs:List Value):Prop where
 len:cs.length=n
 le:n<=cap
 max:cap<=maxLen
 hnil:a=none->cap=0
 cells:∀i,i<n->∃b off,a=some ⟨b,off,none⟩/\w.cell? ⟨b,off+i,none⟩=cs[i]?
theorem bs_len(l:List UInt8):(bs l).length=l.length:=by simp[bs]
theorem ns_len(k:IntKind)(l:List Int):(ns k l).length=l.length:=by simp[ns]
theorem bs_get(l:List UInt8)(i:Nat)(h:i<l.length):(bs l)[i]?=some (.int .u8 ((l[i]?.getD 0).toNat:Int)):=by simp[bs,List.getElem?_eq_getElem h]
theorem ns_get(k:IntKind)(l:List Int)(i:Nat)(h:i<l.length):(ns k l)[i]?=some (.int k (l[i]?.getD 0)):=by simp[ns,List.getElem?_eq_getElem h]
theorem RowAt.byte{w:World}{a:Option Addr}{n cap:Nat}{l:List UInt8}(h:RowAt w a n cap (bs l)){i:Nat}(hi:i<n):
  ∃b off,a=some ⟨b,off,none⟩/\w.cell? ⟨b,off+i,none⟩=some (.int .u8 ((l[i]?.getD 0).toNat:Int)):=by
 obtain⟨b,off,ha,hc⟩:=h.cells i hi;exact⟨b,off,ha,hc.trans (bs_get l i (by have:=h.len;rw[bs_len]at this;omega))⟩
theorem RowAt.num{w:World}{a:Option Addr}{n cap:Nat}{k:IntKind}{l:List Int}(h:RowAt w a n cap (ns k l)){i:Nat}(hi:i<n):
  ∃b off,a=some ⟨b,off,none⟩/\w.cell? ⟨b,off+i,none⟩=some (.int k (l[i]?.getD 0)):=by
 obtain⟨b,off,ha,hc⟩:=h.cells i hi;exact⟨b,off,ha,hc.trans (ns_get k l i (by have:=h.len;rw[ns_len]at this;omega))⟩
theorem RowAt.empty(w:World):RowAt w none 0 0 []:=⟨rfl,Nat.le_refl _,Nat.zero_le _,fun _=>rfl,fun i hi=>absurd hi (Nat.not_lt_zero _)⟩
theorem cell_lt{w:World}{p:Addr}{v:Value}(h:w.cell? p=some v):p.block<w.heap.size:=by
 unfold World.cell? at h;by_cases hlt:p.block<w.heap.size
 ·exact hlt
 rw[Array.getElem?_eq_none (by omega)]at h;simp at h
theorem RowAt.below{w w':World}{a:Option Addr}{n cap:Nat}{cs:List Value}(h:RowAt w a n cap cs)(hb:Below w.heap.size w w'):RowAt w' a n cap cs:=
 ⟨h.len,h.le,h.max,h.hnil,fun i hi=>by
  obtain⟨b,off,ha,hc⟩:=h.cells i hi;have hs:w.cell? ⟨b,off+i,none⟩=some (cs[i]'(by have:=h.len;omega)):=by rw[hc];exact List.getElem?_eq_getElem _
  exact⟨b,off,ha,(hb.cell (p:=⟨b,off+i,none⟩) (cell_lt hs)).trans hc⟩⟩
theorem RowAt.of_own{w:World}{base:Nat}{e:TypeId}{v:Value}{n:Nat}{xs:List Value}(h:w.ownsRow base e 1 v n xs):
  ∃a cap,v=.slice a n cap/\RowAt w a n cap xs:=by
 obtain⟨hl,⟨rfl,rfl⟩ | ⟨g,cap,cur,rfl,hb,hg,hn,hm,hc,ht⟩⟩:=h
 ·refine⟨none,0,rfl,?_⟩;have:xs=[]:=List.eq_nil_of_length_eq_zero (by simpa using hl);subst this;exact RowAt.empty w
 refine⟨_,_,rfl,by simpa using hl,hn,hm,(fun e=>by cases e),fun i hi=>⟨g,0,rfl,?_⟩⟩;have h1:cur.size=cap:=by simpa using hc
 have hlt:i<cur.size:=by omega
 have hx:xs[i]?=some cur[i]:=by rw[<-ht,List.getElem?_take_of_lt (by simpa using hi)];simp[hlt]
 rw[hx];simp[World.cell?,hg,hlt]
theorem RowAt.new(w:World)(cs:Array Value)(T:TypeId)(fz:Nat×Nat)(h:cs.size<=maxLen):RowAt (w.alloc (.cells cs T fz)) (some ⟨w.heap.size,0,none⟩) cs.size cs.size cs.toList:=
 ⟨by simp,Nat.le_refl _,h,(fun e=>by cases e),fun i hi=>⟨w.heap.size,0,rfl,by have h1:=World.alloc_heap_new w (.cells cs T fz);unfold World.cell?;dsimp only;rw[h1];simp[hi]⟩⟩
theorem RowAt.take{w:World}{a:Option Addr}{n cap:Nat}{cs:List Value}(h:RowAt w a n cap cs)(k:Nat)(hk:k<=n):RowAt w a k cap (cs.take k):=
 ⟨by have:=h.len;simp;omega,by have:=h.le;omega,h.max,h.hnil,fun i hi=>by obtain⟨b,off,ha,hc⟩:=h.cells i (by omega);exact⟨b,off,ha,by rw[hc,List.getElem?_take_of_lt hi]⟩⟩
theorem RowAt.sub{w:World}{b off:Nat}{n cap:Nat}{cs:List Value}(h:RowAt w (some ⟨b,off,none⟩) n cap cs){i j:Nat}(hij:i<=j)(hj:j<=n){a':Option Addr}{n' cap':Nat}
  (ha:i<cap->a'=some ⟨b,off+i,none⟩) (hn:n'=j-i) (hc:cap'=cap-i):RowAt w a' n' cap' ((cs.take j).drop i):=by
 subst hn hc;refine⟨by have:=h.len;simp;omega,by have:=h.le;omega,by have:=h.max;omega,fun e=>by
  rcases Nat.lt_or_ge i cap with hlt | hge
  ·rw[ha hlt]at e;cases e
  omega,fun k hk=>?_⟩
 obtain⟨b',off',hb,hcell⟩:=h.cells (i+k) (by omega);cases hb;refine⟨b,off+i,ha (by have:=h.le;omega),?_⟩;rw[Nat.add_assoc,hcell,List.getElem?_drop,List.getElem?_take_of_lt (by omega)]
theorem bs_take(l:List UInt8)(k:Nat):(bs l).take k=bs (l.take k):=by simp[bs]
theorem bs_drop(l:List UInt8)(k:Nat):(bs l).drop k=bs (l.drop k):=by simp[bs]
theorem cell_alloc{w:World}{p:Addr}{v:Value}(h:w.cell? p=some v)(o:Obj):(w.alloc o).cell? p=some v:=
 (((Below.refl w.heap.size w).alloc nat_le_rfl o).cell (p:=p) (cell_lt h)).trans h
theorem RowAt.alloc{w:World}{a:Option Addr}{n cap:Nat}{cs:List Value}(h:RowAt w a n cap cs)(o:Obj):RowAt (w.alloc o) a n cap cs:=
 h.below (bel_refl.alloc nat_le_rfl o)
theorem ownsRow_mono{w:World}{base base':Nat}{e:TypeId}{size:Nat}{v:Value}{n:Nat}{xs:List Value}(h:w.ownsRow base e size v n xs)(hb:base'<=base):
  w.ownsRow base' e size v n xs:=by
 obtain⟨hl,h | ⟨g,cap,cur,rfl,hg,h⟩⟩:=h
 ·exact⟨hl,.inl h⟩
 exact⟨hl,.inr ⟨g,cap,cur,rfl,by omega,h⟩⟩
theorem ownsRow_below{w w':World}{base:Nat}{e:TypeId}{size:Nat}{v:Value}{n:Nat}{xs:List Value}(h:w.ownsRow base e size v n xs)(hb:Below w.heap.size w w'):
  w'.ownsRow base e size v n xs:=by
 obtain⟨hl,h | ⟨g,cap,cur,rfl,hg,hh,h⟩⟩:=h
 ·exact⟨hl,.inl h⟩
 exact⟨hl,.inr ⟨g,cap,cur,rfl,hg,(hb.block g (Array.getElem?_eq_some_iff.1 hh).1).trans hh,h⟩⟩
theorem boxed_below{w w':World}{B:Nat}{t:TypeId}{v:Value}(h:Boxed w B t v)(hb:Below w.heap.size w w'):Boxed w' B t v:=
 (hb.block B h.lt).trans h
theorem block_not_row{W:World}{B:Nat}{c:Array Value}{t e:TypeId}{f:Nat×Nat}(h:W.heap[B]?=some (.cells c t f))(hte:t≠e){base size k:Nat}{v:Value}{xs:List Value}(hr:W.ownsRow base e size v k xs):some B≠v.ownBlock:=by
 obtain⟨_,⟨rfl,_⟩ | ⟨g,cap,cur,rfl,_,hg,_⟩⟩:=hr
 ·simp[Value.ownBlock]
 intro he;simp only[Value.ownBlock,Option.some.injEq]at he;subst he;rw[h]at hg;cases hg;exact hte rfl
/-! ### x[i:j],whatever the address -/
def cutA(a:Option Addr)(cap i:Nat):Option Addr:=if cap=i then a else a.map (·.add i)
theorem RowAt.cut{w:World}{a:Option Addr}{n cap:Nat}{cs:List Value}(h:RowAt w a n cap cs){i j:Nat}(hij:i<=j)(hj:j<=n):RowAt w (cutA a cap i) (j-i) (cap-i) ((cs.take j).drop i):=by
 refine⟨by have:=h.len;simp;omega,by have:=h.le;omega,by have:=h.max;omega,fun e=>by
  have:a=none:=by
   unfold cutA at e;split at e
   ·exact e
   simpa using e
  rw[h.hnil this];exact Nat.zero_sub _,fun k hk=>?_⟩
 obtain⟨b,off,hb,hcell⟩:=h.cells (i+k) (by omega);subst hb;have hne:cap≠i:=by have:=h.le;omega
 refine⟨b,off+i,?_,?_⟩
 ·unfold cutA;rw[if_neg hne];by_cases h0:i=0
  ·subst h0;simp[Addr.add]
  simp[Addr.add,h0]
 rw[Nat.add_assoc,hcell,List.getElem?_drop,List.getElem?_take_of_lt (by omega)]
theorem RowAt.from{w:World}{a:Option Addr}{n cap:Nat}{cs:List Value}(h:RowAt w a n cap cs){i:Nat}(hi:i<=n):RowAt w (cutA a cap i) (n-i) (cap-i) (cs.drop i):=by
 have h1:=h.cut hi (Nat.le_refl n)
 rwa [List.take_of_length_le (by have:=h.len;omega)]at h1
theorem run_cut_l{P:Program}{t:TypeId}(ht:P.underlying t=some (.slice (P.elem t)))(hs:∀W,(sizeOf (P.elem t)).run P W=.ok 1 W)(a:Option Addr)(n cap:Nat)(i:Int)(i':Nat)(hi:i=i')(hin:i'<=n)(W:World):
  (Instr.slice t (.slice a n cap) (some (.int .i64 i)) none none).run P W=.ok (.slice (cutA a cap i') (n-i') (cap-i')) W:=by
 subst hi;rw[run_slice_l W t a n cap ht .i64 _ (by omega) (by omega),hs];simp[Result.andThen,sliced,cutA]
/-! ### Append -/
structure ElemT (P:Program)(t e:TypeId)(z:Value)(size bytes:Nat):Prop where
 ht:P.underlying t=some (.slice e)
 info:(P.info? e).map (fun i=>(i.zero,i.size,i.bytes))=some (some z,size,bytes)
 hzs:z.cells.size=size
theorem grownBy_trans{a b c:World}{row:Option Nat}(h:a.grownBy b none)(k:b.grownBy c row):a.grownBy c row:=
 ⟨k.os.trans h.os,k.tape.trans h.tape,k.output.trans h.output,Nat.le_trans h.size k.size,fun i hi hr=>(k.block i (Nat.lt_of_lt_of_le hi h.size) hr).trans (h.block i hi (by simp))⟩
theorem wp_append_one{P:Program}{w:World}{o:Oper}{a:Act}{K:Act->World->Prop}{Q:Exit->Act->World->Prop}{t e:TypeId}{z:Value}{bytes:Nat}(s x:Operand)
  (ho:o.op=.call {callee:=.builtin .append,args:=#[s,x],argTypes:=#[t,t]}) (E:ElemT P t e z 1 bytes)
  (base:Nat) (v:Value) (n:Nat) (xs:List Value) (hs:a.eval s=v) (hown:w.ownsRow base e 1 v n xs) (u:Value) (hu:u.oneCell'=true) {T:TypeId}
  (hx:a.eval x=.slice (some ⟨w.heap.size,0,none⟩) 1 1) (h63:n<140737488355328) (hbytes:(n+1)*bytes<=140737488355328) (hbase:base<=w.heap.size)
  (h:∀v' w',w'.ownsRow base e 1 v' (n+1) (xs++[u])->w.grownBy w' v.ownBlock->K (a.put o.dst v') w'):o.wp P a (w.alloc (.cells #[u] T)) K Q:=by
 obtain⟨i,hi,hz0,hz1,hz2⟩:=info_parts E.info;refine wp_append_own _ s x t ho base e i z 1 bytes E.ht hi hz0 hz1 hz2 E.hzs (by decide) v n xs hs (hown.alloc _) ⟨w.heap.size,0,none⟩ 1 1 [u] hx rfl ?_ ?_ ?_ hbytes ?_ ?_
 ·intro j u' hj
  match j,hj with
  | 0,hj=>simp at hj;subst hj;exact cell_one_new _ _ _ 0 _ (by simp)
 ·intro u' h';simp at h';subst h';exact hu
 ·unfold maxLen;omega
 ·simp;omega
 intro v' w' h1 h2 _;exact h v' w' h1 (grownBy_trans (World.grownBy_alloc w _ none) h2)
theorem append_one{P:Program}{w:World}{ops:Array Oper}{rest:List Oper}{o:Oper}{a:Act}{Q:Exit->Act->World->Prop}{t e:TypeId}{z:Value}{bytes:Nat}(hgd:o.guard=none)(s x:Operand)
  (ho:o.op=.call {callee:=.builtin .append,args:=#[s,x],argTypes:=#[t,t]}) (E:ElemT P t e z 1 bytes)
  (base:Nat) (v:Value) (n:Nat) (xs:List Value) (hs:a.eval s=v) (hown:w.ownsRow base e 1 v n xs) (u:Value) (hu:u.oneCell'=true) {T:TypeId}
  (hx:a.eval x=.slice (some ⟨w.heap.size,0,none⟩) 1 1) (h63:n<140737488355328) (hbytes:(n+1)*bytes<=140737488355328) (hbase:base<=w.heap.size)
  (h:∀v' w',w'.ownsRow base e 1 v' (n+1) (xs++[u])->w.grownBy w' v.ownBlock->wpList P ops Q rest (a.put o.dst v') w'):wpList P ops Q (o::rest) a (w.alloc (.cells #[u] T)):=
 wpList_plain hgd fun _ hK=>wp_append_one s x ho E base v n xs hs hown u hu hx h63 hbytes hbase fun v' w' h1 h2=>hK _ _ (h v' w' h1 h2)
def idxOf{α:Type}(p:α->Bool):List α->Int
 | []=> -1
 | x::l=>if p x then 0 else(let r:=idxOf p l;if r<0 then -1 else r+1)
theorem idxOf_none{α:Type}(p:α->Bool)(l:List α)(h:∀x∈l,p x=false):idxOf p l= -1:=by
 induction l with
 | nil=>rfl
 | cons x l ih=>simp[idxOf,h x (by simp),ih (fun y hy=>h y (by simp[hy]))]
theorem idxOf_at{α:Type}(p:α->Bool)(l:List α)(k:Nat)(hk:k<l.length)(h:∀j (hj:j<k),p (l[j]'(by omega))=false)(hp:p l[k]=true):idxOf p l=k:=by
 induction l generalizing k with
 | nil=>simp at hk
 | cons x l ih=>
  cases k with
  | zero=>simp at hp;simp[idxOf,hp]
  |succ k=>have h0:=h 0 (by omega);simp at h0;have:=ih k (by simpa using hk) (fun j hj=>by simpa using h (j+1) (by omega)) (by simpa using hp);simp[idxOf,h0,this];omega
theorem idxOf_lt{α:Type}(p:α->Bool)(l:List α):idxOf p l<l.length/\ -1<=idxOf p l:=by
 induction l with
 | nil=>simp[idxOf]
 |cons x l ih=>
  simp only[idxOf,List.length_cons];split
  ·omega
  split<;>omega
/-! ### A scope whose gotos all lead forward to one label -/
def exitFwd(P:Program)(l:Nat)(rest:Code)(Q:Exit->Act->World->Prop):Exit->Act->World->Prop
 | .goto l',a,w=>l'=l/\rest.wp P (Exit.noGoto Q) a w
 | .normal,a,w=>Q .normal a w
 | .exit i,a,w=>Q (.exit i) a w
 | .ret,a,w=>Q .ret a w
 | .panic c,a,w=>Q (.panic c) a w
 | .outgrown,a,w=>Q .outgrown a w
section
variable {P:Program} {l:Nat} {rest:Code} {Q:Exit->Act->World->Prop} {a:Act} {w:World}
@[go_sem] theorem exitFwd_ret:exitFwd P l rest Q .ret a w=Q .ret a w:=rfl
theorem wp_scope_fwd{c:Code}(l:Nat)(hf:findLabel c l=some rest)(h:c.wp P (exitFwd P l rest Q) a w):(Code.scope c).wp P Q a w:=by
 refine wp_scope_jumps l (fun a w=>rest.wp P (Exit.noGoto Q) a w) (fun _ _=>0) hf ?_ ?_
 ·refine wp_mono h ?_;intro e a' w' hq;cases e<;>exact hq
 intro a w hJ;refine wp_mono hJ ?_;intro e a' w' hq;cases e with
 | goto l'=>exact absurd hq (by simp[Exit.noGoto])
 | normal=>exact hq
 | exit i=>exact hq
 | ret=>exact hq
 | panic c=>exact hq
 | outgrown=>exact hq
end
end
def mayR(r:Int):Bool:=decide (0<=r)&&decide (r<=1114111)&&(decide (r<55296)||decide (57343<r))
theorem mayR_iff(r:Int):mayR r=true↔0<=r/\r<=1114111/\(r<55296\/57343<r):=by simp[mayR,and_assoc]
def b8(n:Nat):UInt8:=UInt8.ofNat n
theorem b8_nat(n:Nat)(h:n<256):(b8 n).toNat=n:=by unfold b8;simp;omega
def encR(r:Nat):List UInt8:=
 if r<128 then[b8 r]
 else if r<2048 then[b8 (192+r / 64),b8 (128+r%64)]
 else if r<65536 then[b8 (224+r / 4096),b8 (128+r / 64%64),b8 (128+r%64)]
 else[b8 (240+r / 262144),b8 (128+r / 4096%64),b8 (128+r / 64%64),b8 (128+r%64)]
def lenR(r:Nat):Nat:=if r<128 then 1 else if r<2048 then 2 else if r<65536 then 3 else 4
theorem encR_len(r:Nat):(encR r).length=lenR r:=by
 unfold encR lenR
 repeat' split
 all_goals simp
theorem lenR_bd(r:Nat):1<=lenR r/\lenR r<=4:=by unfold lenR;(repeat' split)<;>omega
def at8(s:List UInt8)(i:Nat):Nat:=(s[i]?.getD 0).toNat
theorem at8_lt(s:List UInt8)(i:Nat):at8 s i<256:=(s[i]?.getD 0).toNat_lt
def valR(n:Nat)(s:List UInt8):Nat:=
 match n with
 | 1=>at8 s 0
 | 2=>at8 s 0%64*64+at8 s 1%64
 | 3=>(at8 s 0%32*64+at8 s 1%64)*64+at8 s 2%64
 | 4=>((at8 s 0%16*64+at8 s 1%64)*64+at8 s 2%64)*64+at8 s 3%64
 | _=>0
def okR(n:Nat)(s:List UInt8):Bool:=decide (n<=s.length)&&decide (valR n s≠0)&&mayR (valR n s)&&(encR (valR n s)==s.take n)
def firstF(s:List UInt8):Nat×Nat:=
 if okR 1 s then(valR 1 s,1)else if okR 2 s then(valR 2 s,2)else if okR 3 s then(valR 3 s,3)else if okR 4 s then(valR 4 s,4)else(0,0)
theorem valR_lt(n:Nat)(s:List UInt8):valR n s<4194304:=by have h0:=at8_lt s 0;unfold valR;split<;>omega
theorem okR_iff(n:Nat)(s:List UInt8):okR n s=true↔n<=s.length/\valR n s≠0/\mayR (valR n s)=true/\encR (valR n s)=s.take n:=by simp[okR,and_assoc]
theorem okR_len{n:Nat}{s:List UInt8}(h:okR n s=true):lenR (valR n s)=n:=by obtain⟨h1,_,_,h4⟩:=(okR_iff n s).1 h;rw[<-encR_len,h4,List.length_take];omega
theorem firstF_spec(s:List UInt8):firstF s=(0,0)\/(∃r n,firstF s=(r,n)/\r≠0/\mayR r=true/\n=lenR r/\n<=s.length/\encR r=s.take n):=by
 have key:∀n,okR n s=true->∃r m,((valR n s,n):Nat×Nat)=(r,m)/\r≠0/\mayR r=true/\m=lenR r/\m<=s.length/\encR r=s.take m:=fun n h=>by obtain⟨h1,h2,h3,h4⟩:=(okR_iff n s).1 h;exact⟨_,_,rfl,h2,h3,(okR_len h).symm,h1,h4⟩
 unfold firstF;split
 ·exact .inr (key 1 (by assumption))
 split
 ·exact .inr (key 2 (by assumption))
 split
 ·exact .inr (key 3 (by assumption))
 split
 ·exact .inr (key 4 (by assumption))
 exact .inl rfl
def runesF:Nat->List UInt8->Nat->List Nat×Option Nat
 | 0,_,_=>([],none)
 |f+1,s,p=>
  if s=[]then([],none)
  else if (firstF s).2=0\/65535<p+(firstF s).2 then([],some p)
  else((firstF s).1::(runesF f (s.drop (firstF s).2) (p+(firstF s).2)).1,(runesF f (s.drop (firstF s).2) (p+(firstF s).2)).2)
def runesL(s:List UInt8)(p:Nat):List Nat×Option Nat:=runesF s.length s p
theorem firstF_le(s:List UInt8):(firstF s).2<=s.length:=by rcases firstF_spec s with h | ⟨r,n,h,_,_,_,h5,_⟩<;>rw[h]<;>simp<;>omega
theorem runesF_fuel(f:Nat)(s:List UInt8)(p:Nat)(h:s.length<=f):runesF f s p=runesF s.length s p:=by
 induction f using Nat.strongRecOn generalizing s p with
 | _ f ih=>
  cases f with
  |zero=>
   have:s.length=0:=by omega
   rw[this]
  | succ f=>
   by_cases hs:s=[]
   ·subst hs;simp[runesF]
   have hl:0<s.length:=List.length_pos_iff.2 hs;obtain⟨k,hk⟩:∃k,s.length=k+1:=⟨s.length-1,by omega⟩;rw[hk];simp only[runesF,if_neg hs];split
   ·rfl
   rename_i hbad;have h1:=firstF_le s;have h2:0<(firstF s).2:=by omega
   have e1:=ih f (by omega) (s.drop (firstF s).2) (p+(firstF s).2) (by simp;omega);have e2:=ih k (by omega) (s.drop (firstF s).2) (p+(firstF s).2) (by simp;omega);rw[e1,e2]
def badR(s:List UInt8)(p:Nat):Bool:=decide ((firstF s).2=0)||decide (65535<p+(firstF s).2)
theorem runesL_nil(p:Nat):runesL [] p=([],none):=rfl
theorem runesL_bad(s:List UInt8)(p:Nat)(hs:s≠[])(h:badR s p=true):runesL s p=([],some p):=by obtain⟨k,hk⟩:∃k,s.length=k+1:=⟨s.length-1,by have:=List.length_pos_iff.2 hs;omega⟩;unfold runesL;rw[hk];simp only[runesF,if_neg hs];rw[if_pos (by simpa[badR]using h)]
theorem runesL_good(s:List UInt8)(p:Nat)(hs:s≠[])(h:badR s p=false):
  runesL s p=((firstF s).1::(runesL (s.drop (firstF s).2) (p+(firstF s).2)).1,(runesL (s.drop (firstF s).2) (p+(firstF s).2)).2):=by
 obtain⟨k,hk⟩:∃k,s.length=k+1:=⟨s.length-1,by have:=List.length_pos_iff.2 hs;omega⟩;have hb:¬((firstF s).2=0\/65535<p+(firstF s).2):=by
  intro hb;have:badR s p=true:=by simpa[badR]using hb
  rw[h]at this;cases this
 have e:=runesF_fuel k (s.drop (firstF s).2) (p+(firstF s).2) (by simp;omega);unfold runesL;rw[hk];simp only[runesF,if_neg hs,if_neg hb,e]
def ChainU:List UInt8->Nat->List (Nat×Nat)->List UInt8->Nat->Prop
 | s,p,[],s',p'=>s=s'/\p=p'
 | s,p,x::pre,s',p'=>s≠[]/\badR s p=false/\x=(p,(firstF s).1)/\ChainU (s.drop (firstF s).2) (p+(firstF s).2) pre s' p'
theorem ChainU.snoc{s:List UInt8}{p:Nat}{pre:List (Nat×Nat)}{s':List UInt8}{p':Nat}(h:ChainU s p pre s' p')(hs:s'≠[])(hb:badR s' p'=false):
  ChainU s p (pre++[(p',(firstF s').1)]) (s'.drop (firstF s').2) (p'+(firstF s').2):=by
 induction pre generalizing s p with
 | nil=>obtain⟨rfl,rfl⟩:=h;exact⟨hs,hb,rfl,rfl,rfl⟩
 | cons x pre ih=>exact⟨h.1,h.2.1,h.2.2.1,ih h.2.2.2⟩
theorem ChainU.runes{s:List UInt8}{p:Nat}{pre:List (Nat×Nat)}{s':List UInt8}{p':Nat}(h:ChainU s p pre s' p'):runesL s p=(pre.map (·.2)++(runesL s' p').1,(runesL s' p').2):=by
 induction pre generalizing s p with
 | nil=>obtain⟨rfl,rfl⟩:=h;simp
 |cons x pre ih=>rw[runesL_good s p h.1 h.2.1,ih h.2.2.2,h.2.2.1];simp
theorem ChainU.drop{s:List UInt8}{p:Nat}{pre:List (Nat×Nat)}{s':List UInt8}{p':Nat}(h:ChainU s p pre s' p'):p<=p'/\p'-p<=s.length/\s'=s.drop (p'-p):=by
 induction pre generalizing s p with
 | nil=>obtain⟨rfl,rfl⟩:=h;simp
 |cons x pre ih=>obtain⟨h1,h2,h3⟩:=ih h.2.2.2;have h4:=firstF_le s;simp only[List.length_drop,List.drop_drop]at h2 h3;refine⟨by omega,by omega,?_⟩;rw[h3];congr 1;omega
def mayL(n:Int):Bool:=decide (0<=n)&&decide (n<=268435455)
theorem len_may(n:Int)(w:World):
  Calls prog 217 #[.int .i64 n] w fun e w'=>e=.returned (.bool (mayL n))/\w=w':=by
 unfold mayL;go_enter func217,ntmps217;go_wp2
 all_goals go_ret
 all_goals (refine⟨?_,rfl⟩;simp_all)
 all_goals omega
theorem len_bounds(w:World):
  Calls prog 219 #[] w fun e w'=>e=.returned (.agg #[.int .i64 0,.int .i64 128,.int .i64 16384,.int .i64 2097152,.int .i64 268435456])/\Below w.heap.size w w':=by
 go_enter func219,ntmps219;go_wp2;refine wp_loop_rounds 5 ?_;rw[rounds_succ];go_wp2;rw[rounds_succ];go_wp2;rw[rounds_succ];go_wp2;rw[rounds_succ];go_wp2;rw[rounds_succ];go_wp2;exact bodyPost_ret (v:=.agg #[.int .i64 0,.int .i64 128,.int .i64 16384,.int .i64 2097152,.int .i64 268435456]) (by simp[results,results219,go_sem]) rfl
  ⟨rfl,(bel_refl.alloc nat_le_rfl _).alloc (by simp) _⟩
theorem len_size1(n x:Int)(b:Nat)(w:World)(hc:w.cell? ⟨b,0,none⟩=some (.int .i64 n)):
  Calls prog 221 #[.int .i64 x,.pointer (some ⟨b,0,none⟩)] w fun e w'=>e=.returned (.bool (decide (n<x)))/\w=w':=by
 go_enter func221,ntmps221;go_wp2;go_ret;exact⟨rfl,rfl⟩
theorem len_all1(x:Int)(w:World):
  Calls prog 216 #[.int .i64 x] w fun e w'=>e=.returned (.bool (!mayL x))/\w=w':=by
 go_enter func216,ntmps216;go_wp2_with (go_at_call 217;refine(len_may _ _).mono ?_;rintro e w' ⟨rfl,rfl⟩)
 go_ret;exact⟨rfl,rfl⟩
theorem len_read1(x:UInt8)(w:World):
  Calls prog 163 #[.int .u8 x.toNat] w fun e w'=>e=.returned (.bool (decide (x.toNat<128)))/\w=w':=by
 go_enter func163,ntmps163;go_wp2;go_ret;refine⟨?_,rfl⟩;simp;omega
theorem indexFunc_byte(g:Nat)(lb:Array Value)(p:UInt8->Bool)(a:Option Addr)(n cap:Nat)(l:List UInt8)(w:World)(h:RowAt w a n cap (bs l))
 (eg:∀args w,(callFunc g args).run prog w=.ok (.enter g args) w) (hg:∀(x:UInt8),Calls prog g (#[.int .u8 x.toNat]++lb) w fun e w'=>e=.returned (.bool (p x))/\w=w'):
  Calls prog 162 #[.slice a n cap,.func (.func g) #[] lb] w fun e w'=>e=.returned (.int .i64 (idxOf p l))/\w=w':=by
 have hle:=h.le;have hmax:=h.max;have hlen:l.length=n:=by have:=h.len;rwa [bs_len]at this
 have HL:=hid hlen;clear hlen;have HG:=hid hg;clear hg;unfold maxLen at hmax;go_enter func162,ntmps162;go_wp2;go_loop [4,5,8] (fun _ _ i=>∃k:Nat,k<=n/\i=.int .i64 k/\Hid (∀j,j<k->p (l[j]?.getD 0)=false)) (fun _ _ i=>n-(intOf i).toNat)
 case atStart=>exact⟨0,Nat.zero_le _,rfl,fun j hj=>absurd hj (Nat.not_lt_zero _)⟩
 case round=>
  obtain⟨k,hk,rfl,hj⟩:=hrel;by_cases hlt:k<n
  ·obtain⟨b,off,ha,hcell⟩:=h.byte hlt;subst ha;clear h;go_wp2_with fail;refine(HG _).mono ?_;rintro e w' ⟨rfl,rfl⟩;cases hp:p (l[k]?.getD 0)
   ·go_wp2
    go_round
    case rel=>
     refine⟨k+1,by omega,by go_num,fun j hj'=>?_⟩;by_cases he:j=k
     ·subst he;exact hp
     exact hj j (by omega)
    case measure=>simp[intOf];omega
   go_wp2;go_ret;refine⟨?_,rfl⟩;have hl:=HL.out;rw[idxOf_at p l k (by omega) (fun j hj'=>by have:=hj j hj';rwa [List.getElem?_eq_getElem (by omega)]at this) (by rwa [List.getElem?_eq_getElem (by omega)]at hp)];rfl
  go_wp2;go_ret;refine⟨?_,rfl⟩;have hl:=HL.out;rw[idxOf_none p l (fun x hx=>by
   obtain⟨j,hj',rfl⟩:=List.getElem_of_mem hx;have:=hj j (by omega)
   rwa [List.getElem?_eq_getElem hj']at this)]
  rfl
theorem indexFunc_i64(g:Nat)(lb:Array Value)(p:Int->Bool)(a:Option Addr)(n cap:Nat)(l:List Int)(w:World)(h:RowAt w a n cap (ns .i64 l))
 (eg:∀args w,(callFunc g args).run prog w=.ok (.enter g args) w) (hg:∀(x:Int),Calls prog g (#[.int .i64 x]++lb) w fun e w'=>e=.returned (.bool (p x))/\w=w'):
  Calls prog 220 #[.slice a n cap,.func (.func g) #[] lb] w fun e w'=>e=.returned (.int .i64 (idxOf p l))/\w=w':=by
 have hle:=h.le;have hmax:=h.max;have hlen:l.length=n:=by have:=h.len;rwa [ns_len]at this
 have HL:=hid hlen;clear hlen;have HG:=hid hg;clear hg;unfold maxLen at hmax;go_enter func220,ntmps220;go_wp2;go_loop [4,5,8] (fun _ _ i=>∃k:Nat,k<=n/\i=.int .i64 k/\Hid (∀j,j<k->p (l[j]?.getD 0)=false)) (fun _ _ i=>n-(intOf i).toNat)
 case atStart=>exact⟨0,Nat.zero_le _,rfl,fun j hj=>absurd hj (Nat.not_lt_zero _)⟩
 case round=>
  obtain⟨k,hk,rfl,hj⟩:=hrel;by_cases hlt:k<n
  ·obtain⟨b,off,ha,hcell⟩:=h.num hlt;subst ha;clear h;go_wp2_with fail;refine(HG _).mono ?_;rintro e w' ⟨rfl,rfl⟩;cases hp:p (l[k]?.getD 0)
   ·go_wp2
    go_round
    case rel=>
     refine⟨k+1,by omega,by go_num,fun j hj'=>?_⟩;by_cases he:j=k
     ·subst he;exact hp
     exact hj j (by omega)
    case measure=>simp[intOf];omega
   go_wp2;go_ret;refine⟨?_,rfl⟩;have hl:=HL.out;rw[idxOf_at p l k (by omega) (fun j hj'=>by have:=hj j hj';rwa [List.getElem?_eq_getElem (by omega)]at this) (by rwa [List.getElem?_eq_getElem (by omega)]at hp)];rfl
  go_wp2;go_ret;refine⟨?_,rfl⟩;have hl:=HL.out;rw[idxOf_none p l (fun x hx=>by
   obtain⟨j,hj',rfl⟩:=List.getElem_of_mem hx;have:=hj j (by omega)
   rwa [List.getElem?_eq_getElem hj']at this)]
  rfl
structure Wrote (M:List Nat)(w w':World):Prop where
 os:w'.os=w.os
 tape:w'.tape=w.tape
 output:w'.output=w.output
 size:w.heap.size<=w'.heap.size
 block:∀k,k<w.heap.size->k∉M->w'.heap[k]?=w.heap[k]?
theorem Wrote.refl(M:List Nat)(w:World):Wrote M w w:=⟨rfl,rfl,rfl,Nat.le_refl _,fun _ _ _=>rfl⟩
theorem Wrote.trans{M:List Nat}{a b c:World}(h:Wrote M a b)(k:Wrote M b c):Wrote M a c:=
 ⟨k.os.trans h.os,k.tape.trans h.tape,k.output.trans h.output,Nat.le_trans h.size k.size,fun i hi hm=>(k.block i (Nat.lt_of_lt_of_le hi h.size) hm).trans (h.block i hi hm)⟩
theorem Wrote.sub{M M':List Nat}{a b:World}(h:Wrote M a b)(hs:∀x∈M,x∈M'):Wrote M' a b:=
 ⟨h.os,h.tape,h.output,h.size,fun i hi hm=>h.block i hi (fun hx=>hm (hs i hx))⟩
theorem Wrote.of_grown{M:List Nat}{a b:World}{row:Option Nat}(h:a.grownBy b row)(hr:∀k,row=some k->k∈M):Wrote M a b:=
 ⟨h.os,h.tape,h.output,h.size,fun i hi hm=>h.block i hi (fun e=>hm (hr i e.symm))⟩
theorem Wrote.of_below{M:List Nat}{a b:World}(h:Below a.heap.size a b):Wrote M a b:=⟨h.os,h.tape,h.output,h.size,fun i hi _=>h.block i hi⟩
theorem Wrote.alloc(M:List Nat)(w:World)(o:Obj):Wrote M w (w.alloc o):=Wrote.of_below (bel_refl.alloc nat_le_rfl o)
theorem Wrote.setCell{M:List Nat}(w:World)(p:Addr)(hp:p.block∈M)(v:Value):Wrote M w (w.setCell p v):=
 ⟨rfl,rfl,rfl,by simp[World.setCell],fun i hi hm=>Below.heap_setCell _ _ _ _ (fun e=>hm (e▸hp))⟩
theorem Wrote.putObj{M:List Nat}(w:World)(l:Nat)(hl:l∈M)(o:Obj):Wrote M w (w.putObj l o):=
 Wrote.of_grown (grownBy_putObj' w l o) (fun k e=>by cases e;exact hl)
theorem Wrote.below{M:List Nat}{a b:World}{n₀:Nat}(h:Wrote M a b)(hn:n₀<=a.heap.size)(hM:∀x∈M,n₀<=x):Below n₀ a b:=
 ⟨h.os,h.tape,h.output,h.size,fun k hk=>h.block k (by omega) (fun hm=>by have:=hM k hm;omega)⟩
theorem Wrote.boxed{M:List Nat}{a b:World}{B:Nat}{t:TypeId}{v:Value}(h:Wrote M a b)(hB:B∉M)(hb:Boxed a B t v):Boxed b B t v:=(h.block B hb.lt hB).trans hb
theorem Wrote.row{M:List Nat}{a b:World}{base:Nat}{e:TypeId}{size:Nat}{v:Value}{n:Nat}{xs:List Value}(h:Wrote M a b)(hM:∀x∈M,x<base)(ho:a.ownsRow base e size v n xs):
  b.ownsRow base e size v n xs:=by
 obtain⟨hl,hx | ⟨g,cap,cur,rfl,hg,hh,hx⟩⟩:=ho
 ·exact⟨hl,.inl hx⟩
 exact⟨hl,.inr ⟨g,cap,cur,rfl,hg,(h.block g (Array.getElem?_eq_some_iff.1 hh).1 (fun hm=>by have:=hM g hm;omega)).trans hh,hx⟩⟩
structure Keep (n₀:Nat)(L:List Nat)(w w':World):Prop where
 bel:Below n₀ w w'
 keep:∀k∈L,w'.heap[k]?=w.heap[k]?
theorem Keep.refl(n₀:Nat)(L:List Nat)(w:World):Keep n₀ L w w:=⟨Below.refl _ _,fun _ _=>rfl⟩
theorem Keep.trans{n₀:Nat}{L:List Nat}{a b c:World}(h:Keep n₀ L a b)(k:Keep n₀ L b c):Keep n₀ L a c:=⟨h.bel.trans k.bel,fun i hi=>(k.keep i hi).trans (h.keep i hi)⟩
theorem Keep.of_below{n₀:Nat}{L:List Nat}{a b:World}(h:Below a.heap.size a b)(hn:n₀<=a.heap.size)(hL:∀k∈L,k<a.heap.size):Keep n₀ L a b:=⟨h.mono hn,fun k hk=>h.block k (hL k hk)⟩
theorem Keep.of_wrote{n₀:Nat}{L M:List Nat}{a b:World}(h:Wrote M a b)(hn:n₀<=a.heap.size)(hL:∀k∈L,k<a.heap.size)(hM:∀x∈M,n₀<=x)(hd:∀k∈L,k∉M):Keep n₀ L a b:=
 ⟨h.below hn hM,fun k hk=>h.block k (hL k hk) (hd k hk)⟩
theorem Keep.setCell{n₀:Nat}{L:List Nat}(w:World)(p:Addr)(hn:n₀<=p.block)(hL:∀k∈L,k≠p.block)(v:Value):Keep n₀ L w (w.setCell p v):=
 ⟨(Below.refl n₀ w).setCell hn v,fun k hk=>Below.heap_setCell _ _ _ _ (hL k hk)⟩
def SeqG{α:Type}(P:Program)(g:Nat)(lb:Array Value)(encs:α->Array Value)(Kp Ab:World->World->Prop)(Nx:List α->α->World->Prop)(S Sp:List α->Prop)(w:World):Prop:=
 ∀(l:Nat)(J Jx:List α->World->Prop)(W:World),Below w.heap.size w W->w.heap.size<=l->
  (∀s A A',J s A->Ab A A'->J s A')->(∀s A A',Jx s A->Ab A A'->Jx s A')->
  (∀pre x W1,J pre W1->Nx pre x W1->YieldAt Fence.wide 0 P l (encs x) W1 fun e W'=>(e=.returned (.bool true)/\J (pre++[x]) W'/\Kp W1 W')\/(e=.returned (.bool false)/\Jx (pre++[x]) W'))->
  J [] W->
  CallsIn Fence.wide 0 P g (#[.func (.yield l) #[] #[]]++lb) W fun e W'=>(∃v,e=.returned v)/\((∃xs,S xs/\J xs W')\/(∃pre,Sp pre/\Jx pre W'))
def roundEnd{α:Type}(B:Nat)(Kp:World->World->Prop)(I:List α->World->Prop)(Ix:Code->List α->World->Prop)(xs:List α)(W:World):Exit->Act->World->Prop
 | .normal,_,W'=>Keep 0 [B,B+1] W W'/\Kp W W'/\I xs W'
 | .ret,_,W'=>Keep 0 [B,B+1] W W'/\Ix .ret xs W'
 | .exit id,_,W'=>Keep 0 [B,B+1] W W'/\Ix (.exit id) xs W'
 | .goto t,_,W'=>Keep 0 [B,B+1] W W'/\Ix (.goto t) xs W'
 | .panic _,_,_=>False
 | .outgrown,_,_=>False
theorem wp_rangeG{P:Program}{α:Type}{g:Operand}{ps:Array Tmp}{assign body:Code}{Q:Exit->Act->World->Prop}{a:Act}{w:World}
  {gf:Nat} {lb:Array Value} (hg:a.eval g=.func (.func gf) #[] lb) (eg:∀args w,(callFunc gf args).run P w=.ok (.enter gf args) w)
  {encs:α->Array Value} {Kp Ab:World->World->Prop} {Nx:List α->α->World->Prop} {S Sp:List α->Prop} (hseq:SeqG P gf lb encs Kp Ab Nx S Sp w)
  (hKt:∀{A B C:World},Kp A B->Kp B C->Kp A C) (hKb:∀(W:World)(o:Obj),w.heap.size+1<W.heap.size->Kp W (W.putObj (w.heap.size+1) o))
  (hAb:∀A B,Ab A B->w.heap.size+1<A.heap.size->A.heap.size<=B.heap.size/\B.heap[w.heap.size]?=A.heap[w.heap.size]?/\B.heap[w.heap.size+1]?=A.heap[w.heap.size+1]?)
  (hps:∀x,(encs x).size=ps.size)
  (I:List α->World->Prop) (Ix:Code->List α->World->Prop)
  (hI:∀s A A',I s A->Ab A A'->I s A') (hIx:∀c s A A',Ix c s A->Ab A A'->Ix c s A')
  (hIo:∀s A o,I s A->w.heap.size+1<A.heap.size->I s (A.putObj (w.heap.size+1) o)) (hIxo:∀c s A o,Ix c s A->w.heap.size+1<A.heap.size->Ix c s (A.putObj (w.heap.size+1) o))
  (h0:∀r,I [] ((w.alloc (.deferred (some []))).alloc (.loop r)))
  (Ax:List α->α->Act->World->Prop) (hAx:∀pre x a' A o,Ax pre x a' A->w.heap.size+1<A.heap.size->Ax pre x a' (A.putObj (w.heap.size+1) o))
  (hassign:∀(pre:List α)(x:α)(W:World)(K:Act->World->Prop),w.heap.size+1<W.heap.size->I pre W->Nx pre x W->(∀a' W',Keep 0 [w.heap.size,w.heap.size+1] W W'->Kp W W'->I pre W'->Ax pre x a' W'->K a' W')->
   assign.wpIn (Fence.wide.inRound (w.heap.size+1)) 0 P (Exit.then K (fun _ _ _=>False)) {tmps:=(ps.zip (encs x)).foldl (fun t (p,v)=>t.setIfInBounds p v) a.tmps,defers:=[]} W)
  (hbody:∀(pre:List α)(x:α)(a':Act)(W:World),w.heap.size+1<W.heap.size->I pre W->Ax pre x a' W->body.wpIn (Fence.wide.inRound (w.heap.size+1)) 0 P (roundEnd w.heap.size Kp I Ix (pre++[x]) W) a' W)
  (hdone:∀(xs:List α)(W:World),S xs->I xs W->w.heap.size<W.heap.size->W.heap[w.heap.size]?=some (.deferred (some []))->Q .normal {a with defers:={target:=.collected w.heap.size,args:=#[]}::a.defers} W)
  (hstop:∀(c:Code)(pre:List α)(W:World),Sp pre->Ix c pre W->w.heap.size<W.heap.size->W.heap[w.heap.size]?=some (.deferred (some []))->c.wp P Q {a with defers:={target:=.collected w.heap.size,args:=#[]}::a.defers} W):
  (Code.rangeFunc g ps assign body).wp P Q a w:=by
 refine(wpIn_wide (n:=0)).1 (wpIn_rangeFunc ?_);intro fn hfn;obtain⟨rec,hrec⟩:∃rec:LoopState->Option Code->Loop,rec=fun st pe=>{state:=st,pending:=pe,fn,tmps:=a.tmps,params:=ps,assign,body,defers:=w.heap.size}:=⟨_,rfl⟩;obtain⟨W1,hW1⟩:=gen_of ((w.alloc (.deferred (some []))).alloc (.loop (rec .ready none)));have hL1:W1.heap[w.heap.size+1]?=some (.loop (rec .ready none)):=by rw[<-hW1];have:=World.alloc_heap_new (w.alloc (.deferred (some []))) (.loop (rec .ready none));rwa [World.size_alloc]at this
 have hK1:W1.heap[w.heap.size]?=some (.deferred (some [])):=by rw[<-hW1];exact(Below.heap_alloc _ _ _ (by simp)).trans (World.alloc_heap_new w _)
 have hI1:I [] W1:=by rw[<-hW1];exact h0 _
 have hb1:Below w.heap.size w W1:=by rw[<-hW1];exact((Below.refl _ w).alloc nat_le_rfl _).alloc (by simp) _
 refine⟨w.heap.size+1,[{target:=.collected w.heap.size,args:=#[]}],W1,{target:=.fn (.func gf) lb,args:=#[.func (.yield (w.heap.size+1)) #[] #[]]},W1,gf,
  #[.func (.yield (w.heap.size+1)) #[] #[]]++lb,W1,?_,?_,fun _ _=>trivial,?_,fun h=>by simp[Fence.wide]at h,?_⟩
 ·rw[<-hW1,hrec];exact run_enterLoop_outer _ _ _ _ _
 ·simp only[resolve,hg];simp[go_sem]
 ·simp[invoke,go_sem,eg]
 refine(hseq (w.heap.size+1)
  (fun pre W=>I pre W/\W.heap[w.heap.size+1]?=some (.loop (rec .ready none))/\W.heap[w.heap.size]?=some (.deferred (some [])))
  (fun pre W=>∃c,Ix c pre W/\W.heap[w.heap.size+1]?=some (.loop (rec .done (some c)))/\W.heap[w.heap.size]?=some (.deferred (some [])))
  W1 hb1 (Nat.le_succ _)
  (fun s A B hs hab=>by have hlt:=(Array.getElem?_eq_some_iff.1 hs.2.1).1;obtain⟨_,h1,h2⟩:=hAb A B hab hlt;exact⟨hI s A B hs.1 hab,h2.trans hs.2.1,h1.trans hs.2.2⟩)
  (fun s A B hs hab=>by obtain⟨c,hc,hl,hk⟩:=hs;have hlt:=(Array.getElem?_eq_some_iff.1 hl).1;obtain⟨_,h1,h2⟩:=hAb A B hab hlt;exact⟨c,hIx c s A B hc hab,h2.trans hl,h1.trans hk⟩)
  ?_ ⟨hI1,hL1,hK1⟩).mono ?_
 ·rintro pre x W ⟨hi,hl,hk⟩ hnx;have hlt:w.heap.size+1<W.heap.size:=(Array.getElem?_eq_some_iff.1 hl).1;have hy:=run_yield (P:=P) (args:=encs x) hl (by rw[hrec];exact hps x);rw[hrec]at hy;refine⟨fn,_,assign,body,hy,roundIn_of_wpIn hfn (hassign pre x W _ hlt hi hnx ?_)⟩;clear hy;intro a' Wa hka hkpa hia hax;have hla:=(hka.keep _ (by simp:w.heap.size+1∈_)).trans hl;have hda:=(hka.keep _ (by simp:w.heap.size∈_)).trans hk;have hlta:w.heap.size+1<Wa.heap.size:=(Array.getElem?_eq_some_iff.1 hla).1;refine⟨_,run_beginRound hla (by rw[hrec]),?_⟩;have hl2:(Wa.putObj (w.heap.size+1) (.loop {rec .ready none with state:=.busy})).heap[w.heap.size+1]?=some (.loop {rec .ready none with state:=.busy}):=World.putObj_heap_same hlta;have hk2:(Wa.putObj (w.heap.size+1) (.loop {rec .ready none with state:=.busy})).heap[w.heap.size]?=some (.deferred (some [])):=(World.putObj_heap_other (by omega)).trans hda;refine wpIn_mono (hbody pre x a' _ (by simpa using hlta) (hIo _ _ _ hia hlta) (hAx _ _ _ _ _ hax hlta)) ?_;have fin:∀(jump:Option Code)(W3:World),Keep 0 [w.heap.size,w.heap.size+1] (Wa.putObj (w.heap.size+1) (.loop {rec .ready none with state:=.busy})) W3->
    (Instr.endRound (w.heap.size+1) jump).run P W3=.ok (.bool jump.isNone) (W3.putObj (w.heap.size+1) (.loop (rec (if jump.isNone then .ready else .done) jump)))/\
    w.heap.size+1<W3.heap.size/\
    (W3.putObj (w.heap.size+1) (.loop (rec (if jump.isNone then .ready else .done) jump))).heap[w.heap.size+1]?=some (.loop (rec (if jump.isNone then .ready else .done) jump))/\
    (W3.putObj (w.heap.size+1) (.loop (rec (if jump.isNone then .ready else .done) jump))).heap[w.heap.size]?=some (.deferred (some [])):=fun jump W3 hk3=>by
   have hl3:=(hk3.keep _ (by simp:w.heap.size+1∈_)).trans hl2;have:=run_endRound (P:=P) jump hl3;rw[hrec]at this ⊢;have h4:=(Array.getElem?_eq_some_iff.1 hl3).1;exact⟨this,h4,World.putObj_heap_same h4,(World.putObj_heap_other (by omega)).trans ((hk3.keep _ (by simp:w.heap.size∈_)).trans hk2)⟩
  rintro e a3 W3 hp;cases e with
  |normal=>obtain⟨hk3,hkp3,hi3⟩:=hp;obtain⟨hr,hl3,hl4,hk4⟩:=fin none W3 hk3;exact⟨_,_,hr,.inl ⟨rfl,⟨hIo _ _ _ hi3 hl3,hl4,hk4⟩,hKt hkpa (hKt (hKt (hKb _ _ hlta) hkp3) (hKb _ _ hl3))⟩⟩
  |ret=>obtain⟨hk3,hi3⟩:=hp;obtain⟨hr,hl3,hl4,hk4⟩:=fin (some .ret) W3 hk3;exact⟨_,_,hr,.inr ⟨rfl,.ret,hIxo _ _ _ _ hi3 hl3,hl4,hk4⟩⟩
  |exit id=>obtain⟨hk3,hi3⟩:=hp;obtain⟨hr,hl3,hl4,hk4⟩:=fin (some (.exit id)) W3 hk3;exact⟨_,_,hr,.inr ⟨rfl,.exit id,hIxo _ _ _ _ hi3 hl3,hl4,hk4⟩⟩
  |goto t=>obtain⟨hk3,hi3⟩:=hp;obtain⟨hr,hl3,hl4,hk4⟩:=fin (some (.goto t)) W3 hk3;exact⟨_,_,hr,.inr ⟨rfl,.goto t,hIxo _ _ _ _ hi3 hl3,hl4,hk4⟩⟩
  | panic ch=>exact hp.elim
  | outgrown=>exact hp.elim
 rintro e W2 ⟨⟨v,rfl⟩,(⟨xs,hS,hi,hl,hk⟩ | ⟨pre,hSp,c,hi,hl,hk⟩)⟩
 ·have h4:=(Array.getElem?_eq_some_iff.1 hl).1;exact⟨none,_,by have:=run_endLoop (P:=P) hl (by rw[hrec];simp);rw[hrec]at this;exact this,hdone xs _ hS (hIo _ _ _ hi h4) (by simp;omega) ((World.putObj_heap_other (by omega)).trans hk)⟩
 have h4:=(Array.getElem?_eq_some_iff.1 hl).1;exact⟨some c,_,by have:=run_endLoop (P:=P) hl (by rw[hrec];simp);rw[hrec]at this;exact this,wpIn_wide.2 (hstop c pre _ hSp (hIxo _ _ _ _ hi h4) (by simp;omega) ((World.putObj_heap_other (by omega)).trans hk))⟩
def roundOut{α:Type}(B n₀:Nat)(L:List Nat)(I:List α->World->Prop)(Ix:Code->List α->World->Prop)(xs:List α)(W:World):Exit->Act->World->Prop
 | .normal,_,W'=>Keep n₀ (B::(B+1)::L) W W'/\I xs W'
 | .ret,_,W'=>Keep n₀ (B::(B+1)::L) W W'/\Ix .ret xs W'
 | .exit id,_,W'=>Keep n₀ (B::(B+1)::L) W W'/\Ix (.exit id) xs W'
 | .goto t,_,W'=>Keep n₀ (B::(B+1)::L) W W'/\Ix (.goto t) xs W'
 | .panic _,_,_=>False
 | .outgrown,_,_=>False
theorem Keep.recs{n₀:Nat}{B:Nat}{L:List Nat}{a b:World}(h:Keep n₀ (B::(B+1)::L) a b):Keep 0 [B,B+1] a b:=⟨h.bel.mono (Nat.zero_le _),fun k hk=>h.keep k (by simp at hk ⊢;omega)⟩
theorem Keep.rest{n₀:Nat}{B:Nat}{L:List Nat}{a b:World}(h:Keep n₀ (B::(B+1)::L) a b):Keep n₀ L a b:=⟨h.bel,fun k hk=>h.keep k (by simp[hk])⟩
theorem wp_range{P:Program}{α:Type}{g:Operand}{ps:Array Tmp}{assign body:Code}{Q:Exit->Act->World->Prop}{a:Act}{w:World}
  {gf:Nat} {lb:Array Value} (hg:a.eval g=.func (.func gf) #[] lb) (eg:∀args w,(callFunc gf args).run P w=.ok (.enter gf args) w)
  {encs:α->Array Value} {n₀:Nat} {L M:List Nat} {Nx:List α->α->World->Prop} {S Sp:List α->Prop} (hseq:SeqG P gf lb encs (Keep n₀ L) (Wrote M) Nx S Sp w)
  (hn:n₀<=w.heap.size) (hL:∀k∈L,k<w.heap.size) (hM:∀k∈M,k<w.heap.size)
  (hps:∀x,(encs x).size=ps.size)
  (I:List α->World->Prop) (Ix:Code->List α->World->Prop)
  (hI:∀s A A',I s A->Wrote (w.heap.size::(w.heap.size+1)::M) A A'->I s A') (hIx:∀c s A A',Ix c s A->Wrote (w.heap.size::(w.heap.size+1)::M) A A'->Ix c s A')
  (h0:I [] w)
  (Ax:List α->α->Act->World->Prop) (hAx:∀pre x a' A A',Ax pre x a' A->w.heap.size+1<A.heap.size->Wrote [w.heap.size+1] A A'->Ax pre x a' A')
  (hassign:∀(pre:List α)(x:α)(W:World)(K:Act->World->Prop),w.heap.size+1<W.heap.size->I pre W->Nx pre x W->(∀a' W',Below W.heap.size W W'->I pre W'->Ax pre x a' W'->K a' W')->
   assign.wpIn (Fence.wide.inRound (w.heap.size+1)) 0 P (Exit.then K (fun _ _ _=>False)) {tmps:=(ps.zip (encs x)).foldl (fun t (p,v)=>t.setIfInBounds p v) a.tmps,defers:=[]} W)
  (hbody:∀(pre:List α)(x:α)(a':Act)(W:World),w.heap.size+1<W.heap.size->I pre W->Ax pre x a' W->body.wpIn (Fence.wide.inRound (w.heap.size+1)) 0 P (roundOut w.heap.size n₀ L I Ix (pre++[x]) W) a' W)
  (hdone:∀(xs:List α)(W:World),S xs->I xs W->w.heap.size<W.heap.size->W.heap[w.heap.size]?=some (.deferred (some []))->Q .normal {a with defers:={target:=.collected w.heap.size,args:=#[]}::a.defers} W)
  (hstop:∀(c:Code)(pre:List α)(W:World),Sp pre->Ix c pre W->w.heap.size<W.heap.size->W.heap[w.heap.size]?=some (.deferred (some []))->c.wp P Q {a with defers:={target:=.collected w.heap.size,args:=#[]}::a.defers} W):
  (Code.rangeFunc g ps assign body).wp P Q a w:=by
 have hp:∀(A:World)(o:Obj),Wrote (w.heap.size::(w.heap.size+1)::M) A (A.putObj (w.heap.size+1) o):=fun A o=>Wrote.putObj A _ (by simp) o;refine wp_rangeG hg eg hseq (fun h k=>h.trans k) (fun W o hl=>?_) (fun A A' h hl=>?_) hps I Ix (fun s A A' h k=>hI s A A' h (k.sub (fun x hx=>by simp[hx]))) (fun c s A A' h k=>hIx c s A A' h (k.sub (fun x hx=>by simp[hx])))
  (fun s A o h hl=>hI s A _ h (hp A o)) (fun c s A o h hl=>hIx c s A _ h (hp A o)) (fun r=>hI [] w _ h0 ((Wrote.alloc _ _ _).trans (Wrote.alloc _ _ _))) Ax
  (fun pre x a' A o h hl=>hAx pre x a' A _ h hl (Wrote.putObj A _ (by simp) o)) (fun pre x W K hl hi hx hK=>?_) (fun pre x a' W hl hi ha=>?_) hdone hstop
 ·exact Keep.of_wrote (M:=[w.heap.size+1]) (Wrote.putObj W _ (by simp) o) (by omega) (fun k hk=>by have:=hL k hk;omega) (fun x hx=>by simp at hx;omega) (fun k hk=>by have:=hL k hk;simp;omega)
 ·exact⟨h.size,h.block _ (by omega) (fun hm=>by have:=hM _ hm;omega),h.block _ hl (fun hm=>by have:=hM _ hm;omega)⟩
 ·exact hassign pre x W K hl hi hx (fun a' W' hb hi' ha'=>hK a' W' (Keep.of_below hb (Nat.zero_le _) (fun k hk=>by simp at hk;omega)) (Keep.of_below hb (by omega) (fun k hk=>by have:=hL k hk;omega)) hi' ha')
 refine wpIn_mono (hbody pre x a' W hl hi ha) ?_;intro e a3 W3 hp;cases e with
 | normal=>exact⟨hp.1.recs,hp.1.rest,hp.2⟩
 | ret=>exact⟨hp.1.recs,hp.2⟩
 | exit id=>exact⟨hp.1.recs,hp.2⟩
 | goto t=>exact⟨hp.1.recs,hp.2⟩
 | panic ch=>exact hp.elim
 | outgrown=>exact hp.elim
theorem inW{P:Program}{f:FuncId}{args:Array Value}{w:World}{R R':Ending->World->Prop}(h:Calls P f args w R)(hr:∀e w',R e w'->R' e w'):
  Fence.wide.fn f/\Fence.wide.depth=none/\CallsIn Fence.wide 0 P f args w R':=⟨trivial,rfl,(callsIn_wide (n:=0)).2 (h.mono hr)⟩
theorem ret_mark{P:Program}{fn:Func}{tmps:Array Value}{R:Ending->World->Prop}{D:Nat}{w:World}{v:Value}(hK:w.heap[D]?=some (.deferred (some [])))
  (hres:∀w',w'=w.putObj D (.deferred none)->(results fn tmps).run P w'=.ok v w'/\R (.returned v) w'):
  bodyPostM Fence.wide 0 P fn R .ret {tmps:=tmps,defers:=[{target:=.collected D,args:=#[]}]} w:=by
 obtain⟨h1,h2⟩:=hres _ rfl;exact⟨by simp,.inl ⟨_,_,rfl,run_takeDeferred hK,⟨_,h1,h2⟩⟩⟩
theorem calls_marks{P:Program}{f:FuncId}{fn:Func}{c:Code}{args:Array Value}{w:World}{R:Ending->World->Prop}(hf:P.funcs[f]?=some fn)(hb:fn.body=some c)
  (h:c.wp P (bodyPostM Fence.wide 0 P fn R) {tmps:=args++Array.replicate (fn.ntmps-args.size) undef,defers:=[]} w):Calls P f args w R:=
 (callsIn_wide (n:=0)).1 (callsIn_of_wp_marks hf hb trivial (wpIn_wide.2 h) rfl)
/-! ### A region that draws its order,within a round -/
def popN:Nat->Nat->Nat
 | 0,_=>0
 | n+1,w=>w%2+popN n (w / 2)
theorem popN_zero(n:Nat):popN n 0=0:=by
 induction n with
 | zero=>rfl
 | succ n ih=>simp[popN,ih]
theorem xor_half(a b:Nat):(a^^^b) / 2=a / 2^^^b / 2:=by have:=Nat.shiftRight_xor_distrib (a:=a) (b:=b) (i:=1);simpa[Nat.shiftRight_succ]using this
theorem xor_low(a b:Nat):(a^^^b)%2=a%2^^^b%2:=by have:=Nat.xor_mod_two_pow (a:=a) (b:=b) (n:=1);simpa using this
theorem popN_xor(n w k:Nat)(hk:k<n):(w.testBit k=true->popN n (w^^^2^k)+1=popN n w)/\(w.testBit k=false->popN n (w^^^2^k)=popN n w+1):=by
 induction n generalizing w k with
 | zero=>omega
 | succ n ih=>
  simp only[popN];rw[xor_low,xor_half];cases k with
  |zero=>simp only[Nat.pow_zero,Nat.testBit_zero,decide_eq_true_eq,decide_eq_false_iff_not];have:(1 / 2:Nat)=0:=rfl;rw[this,Nat.xor_zero];rcases Nat.mod_two_eq_zero_or_one w with h1 | h1<;>rw[h1]<;>simp<;>omega
  |succ k=>
   have e1:2^(k+1) / 2=2^k:=by omega
   have e2:2^(k+1)%2=0:=by omega
   rw[e1,e2,Nat.xor_zero];have:=ih (w / 2) k (by omega);rw[Nat.testBit_succ];constructor
   ·intro h;have:=this.1 h;omega
   intro h;have:=this.2 h;omega
def tot:Nat->(Nat->Nat)->Nat
 | 0,_=>0
 | n+1,W=>tot n W+popN 64 (W n)
def tog(W:Nat->Nat)(n:Nat):Nat->Nat:=fun i=>if i=n / 64 then W i^^^2^(n%64)else W i
theorem tot_other(W:Nat->Nat)(n m:Nat)(h:m<=n / 64):tot m (tog W n)=tot m W:=by
 induction m with
 | zero=>rfl
 |succ m ih=>
  have:m≠n / 64:=by omega
  simp[tot,ih (by omega),tog,this]
theorem tot_tog(W:Nat->Nat)(n m:Nat)(h:n / 64<m):((W (n / 64)).testBit (n%64)=true->tot m (tog W n)+1=tot m W)/\((W (n / 64)).testBit (n%64)=false->tot m (tog W n)=tot m W+1):=by
 have hk:n%64<64:=Nat.mod_lt _ (by decide);have hp:=popN_xor 64 (W (n / 64)) (n%64) hk;induction m with
 | zero=>omega
 | succ m ih=>
  simp only[tot];rcases Nat.lt_or_ge (n / 64) m with h1 | h1
  ·have h2:=ih h1;have h3:m≠n / 64:=by omega
   have h4:tog W n m=W m:=by simp[tog,h3]
   rw[h4];constructor
   ·intro h;have:=h2.1 h;omega
   intro h;have:=h2.2 h;omega
  have h3:m=n / 64:=by omega
  have h4:tog W n m=W m^^^2^(n%64):=by simp[tog,h3]
  rw[h4,tot_other W n m (by omega)];subst h3;constructor
  ·intro h;have:=hp.1 h;omega
  intro h;have:=hp.2 h;omega
structure SetIs (W:Nat->Nat)(ids:List Nat):Prop where
 lt:∀i,W i<18446744073709551616
 has:∀n,n<65536->(W (n / 64)).testBit (n%64)=decide (n∈ids)
 tot:tot 1024 W=ids.length
theorem tot_zero(m:Nat):tot m (fun _=>0)=0:=by
 induction m with
 | zero=>rfl
 | succ m ih=>simp[YtkghejaimhoboaaGreatDoor.tot,ih,popN_zero]
theorem SetIs.nil:SetIs (fun _=>0) []:=⟨fun _=>by decide,fun n _=>by simp,by simp[tot_zero]⟩
theorem SetIs.perm{W:Nat->Nat}{l l':List Nat}(h:SetIs W l)(p:l.Perm l'):SetIs W l':=
 ⟨h.lt,fun n hn=>by rw[h.has n hn];simp[p.mem_iff],by rw[h.tot,p.length_eq]⟩
theorem tog_lt{W:Nat->Nat}(h:∀i,W i<18446744073709551616)(n:Nat):∀i,tog W n i<18446744073709551616:=by
 intro i;unfold tog;have hk:n%64<64:=Nat.mod_lt _ (by decide);split
 ·exact Nat.xor_lt_two_pow (n:=64) (h i) (Nat.pow_lt_pow_right (by decide) hk)
 exact h i
theorem tog_bit(W:Nat->Nat)(n m:Nat):(tog W n (m / 64)).testBit (m%64)=((W (m / 64)).testBit (m%64)^^decide (m=n)):=by
 unfold tog;by_cases h:m / 64=n / 64
 ·rw[if_pos h,Nat.testBit_xor,Nat.testBit_two_pow];have:(n%64=m%64)=(m=n):=by
   apply propext;constructor
   ·intro h2;omega
   intro h2;rw[h2]
  simp[this]
 rw[if_neg h];have:m≠n:=fun e=>h (by rw[e]);simp[this]
theorem SetIs.come{W:Nat->Nat}{l:List Nat}(h:SetIs W l){n:Nat}(hn:n<65536)(hnot:n∉l):SetIs (tog W n) (n::l):=by
 have hb:(W (n / 64)).testBit (n%64)=false:=by rw[h.has n hn];simp[hnot]
 refine⟨tog_lt h.lt n,fun m hm=>?_,?_⟩
 ·rw[tog_bit,h.has m hm];by_cases e:m=n
  ·subst e;simp[hnot]
  simp[e]
 rw[(tot_tog W n 1024 (by omega)).2 hb,h.tot];rfl
theorem SetIs.le{W:Nat->Nat}{l:List Nat}(h:SetIs W l)(i:Nat):(W i:Int)<18446744073709551616:=by have:=h.lt i;omega
def setCells(W:Nat->Nat):Array Value:=Array.ofFn fun i:Fin 1024=>.int .u64 (W i)
theorem setCells_zero:setCells (fun _=>0)=Array.replicate 1024 (.int .u64 0):=by
 apply Array.ext
 ·simp[setCells]
 intro i h1 h2;simp[setCells]
def nxt(z:Int):Int:=z%65535+1
def firstI:Nat->Int->List Nat->Int
 | 0,z,_=>z
 | k+1,z,ids=>if z.toNat∈ids then firstI k (nxt z) ids else z
theorem nxt_range(z:Int):1<=nxt z/\nxt z<=65535:=by have q3:0<=z%65535:=Int.emod_nonneg _ (by omega);have q4:z%65535<65535:=Int.emod_lt_of_pos _ (by omega);unfold nxt;omega
theorem firstI_range(k:Nat)(z:Int)(ids:List Nat)(h:1<=z/\z<=65535):1<=firstI k z ids/\firstI k z ids<=65535:=by
 induction k generalizing z with
 | zero=>exact h
 |succ k ih=>
  unfold firstI;split
  ·exact ih _ (nxt_range z)
  exact h
section
open Ieee
end
def IsRow(k:IntKind)(w:World)(a:Option Addr)(len cap:Nat)(zs:List Int):Prop:=
 (a=none/\len=0/\cap=0/\zs=[])\/
 ∃x,a=some x/\len<=cap/\cap<=maxLen/\zs.length=cap/\(∀i,i<zs.length->w.cell? (x.add i)=some (.int k (zs.getD i 0)))/\∀n∈zs,(Lit.int k n).wf=true
theorem IsRow.row{k:IntKind}{w:World}{a:Option Addr}{len cap:Nat}{zs:List Int}(h:IsRow k w a len cap zs):RowAt w a len cap (ns k (zs.take len))/\∀n∈zs.take len,(Lit.int k n).wf=true:=by
 rcases h with⟨rfl,rfl,rfl,rfl⟩ | ⟨x,rfl,hl,hm,hz,hc,hwf⟩
 ·exact⟨RowAt.empty w,by simp⟩
 refine⟨⟨by simp[ns];omega,hl,hm,(fun e=>by cases e),fun i hi=>?_⟩,fun n hn=>hwf n (List.mem_of_mem_take hn)⟩;have h0:=hc i (by omega);obtain⟨b,off,spot⟩:=x;have hspot:spot=none:=by have h1:=hc 0 (by omega);simpa[Addr.add]using World.cell?_spot h1
 subst hspot;refine⟨b,off,rfl,?_⟩;have e1:(ns k (zs.take len))[i]?=some (.int k (zs.getD i 0)):=by rw[ns_get k _ i (by simp;omega),List.getElem?_take_of_lt hi];rfl
 rw[e1,<-h0];by_cases h0:i=0
 ·subst h0;simp[Addr.add]
 simp[Addr.add,h0]
def sizeL(n:Int):Nat:=if mayL n=false then 0 else if n<128 then 1 else if n<16384 then 2 else if n<2097152 then 3 else 4
theorem mayL_iff(n:Int):mayL n=true↔0<=n/\n<=268435455:=by simp[mayL]
theorem containsFunc_i64(g:Nat)(lb:Array Value)(p:Int->Bool)(a:Option Addr)(n cap:Nat)(l:List Int)(w:World)(h:RowAt w a n cap (ns .i64 l))
 (eg:∀args w,(callFunc g args).run prog w=.ok (.enter g args) w) (hg:∀(x:Int),Calls prog g (#[.int .i64 x]++lb) w fun e w'=>e=.returned (.bool (p x))/\w=w'):
  Calls prog 215 #[.slice a n cap,.func (.func g) #[] lb] w fun e w'=>e=.returned (.bool (decide (0<=idxOf p l)))/\w=w':=by
 have HG:=hid (indexFunc_i64 g lb p a n cap l w h eg hg);clear hg eg;go_enter func215,ntmps215;go_wp2_with fail
 refine HG.mono ?_;rintro e w' ⟨rfl,rfl⟩;go_wp2;go_ret;exact⟨rfl,rfl⟩
theorem len_size(n:Int)(w:World):
  Calls prog 165 #[.int .i64 n] w fun e w'=>e=.returned (.int .i64 (sizeL n))/\Below w.heap.size w w':=by
 cases hm:mayL n
 ·go_enter func165,ntmps165;go_wp2_with (go_at_call 217;refine(len_may _ _).mono ?_;rintro e w' ⟨rfl,rfl⟩)
  go_ret;exact⟨by simp[sizeL,hm],bel_refl.alloc nat_le_rfl _⟩
 go_enter func165,ntmps165;go_wp2_with (go_at_call 217;refine(len_may _ _).mono ?_;rintro e w' ⟨rfl,rfl⟩)
 refine(len_bounds _).mono ?_;rintro e w1 ⟨rfl,hb⟩;have hc1:w1.cell? ⟨w.heap.size,0,none⟩=some (.int .i64 n):=by rw[hb.cell (p:=⟨w.heap.size,0,none⟩) (by simp)];go_simp
 have hz:=hb.size;simp at hz;go_wp2_with fail
 have hrow:RowAt (w1.alloc (Obj.cells #[.int .i64 0,.int .i64 128,.int .i64 16384,.int .i64 2097152,.int .i64 268435456] 250)) (some ⟨w1.heap.size,0,none⟩) 5 5 (ns .i64 [0,128,16384,2097152,268435456]):=
  RowAt.new w1 _ _ _ (by simp[maxLen])
 have hc2:=cell_alloc hc1 (Obj.cells #[.int .i64 0,.int .i64 128,.int .i64 16384,.int .i64 2097152,.int .i64 268435456] 250);refine(indexFunc_i64 221 #[.pointer (some ⟨w.heap.size,0,none⟩)] (fun x=>decide (n<x)) _ 5 5 _ _ hrow (enters_of func221 (by kernel_rfl) rfl) (fun x=>len_size1 n x _ _ hc2)).mono ?_;rintro e w' ⟨rfl,rfl⟩;go_wp2;go_ret;refine⟨?_,?_⟩
 ·have hm':=(mayL_iff n).1 hm;congr 2;simp only[sizeL,hm,idxOf];have h0:¬n<0:=by omega
  have h5:n<268435456:=by omega
  by_cases h1:n<128<;>by_cases h2:n<16384<;>by_cases h3:n<2097152<;>simp[h0,h1,h2,h3,h5]<;>omega
 exact(((Below.refl _ w).alloc nat_le_rfl _).trans (hb.mono (by simp))).alloc (by omega) _
theorem len_bytes1(n b:Nat)(w:World)(hn:n<268435456)(hc:w.cell? ⟨b,0,none⟩=some (.int .i64 n))(hf:w.frozen? ⟨b,0,none⟩=false):
  Calls prog 244 #[.pointer (some ⟨b,0,none⟩)] w fun e w'=>e=.returned (.int .u8 (if n<128 then n else n%128+128:Nat))/\w.setCell ⟨b,0,none⟩ (.int .i64 (n / 128:Nat))=w':=by
 have e1:bits .and .i64 (n:Int) 127=n%128:=i64_and127 _;have e2:bits .or .u8 ((n:Int)%128) 128=n%128+128:=u8_or128_right _ (by omega) (by omega);by_cases h:n<128
 ·have e3:(n:Int)%128=n:=by omega
  have e4:(n:Int) / 128=0:=by omega
  go_enter func244,ntmps244;go_wp2;go_ret;exact⟨by simp[h],by simp[e4]⟩
 have e3:(n:Int)%128%256=n%128:=by omega
 have e4:0<(n:Int) / 128:=by omega
 go_enter func244,ntmps244;go_wp2;go_ret;exact⟨by simp[h],rfl⟩
theorem len_bytes(n:Int)(w:World):
  Calls prog 218 #[.int .i64 n] w fun e w'=>e=.returned (.func (.func 244) #[] #[.pointer (some ⟨w.heap.size,0,none⟩)])/\w.alloc (.cells #[.int .i64 n] 2)=w':=by
 go_enter func218,ntmps218;go_wp2;go_ret;exact⟨rfl,rfl⟩
def rawL:Nat->Nat->List UInt8
 | 0,_=>[]
 | s+1,n=>(if n<128 then UInt8.ofNat n else UInt8.ofNat (n%128+128))::rawL s (n / 128)
def byteL(n:Nat):UInt8:=if n<128 then UInt8.ofNat n else UInt8.ofNat (n%128+128)
theorem rawL_len(s n:Nat):(rawL s n).length=s:=by
 induction s generalizing n with
 | zero=>rfl
 | succ s ih=>simp[rawL,ih]
theorem rawL_snoc(s n:Nat):rawL (s+1) n=rawL s n++[byteL (n / 128^s)]:=by
 induction s generalizing n with
 | zero=>simp[rawL,byteL]
 |succ s ih=>rw[rawL,ih (n / 128)];simp only[rawL,List.cons_append,Nat.div_div_eq_div_mul,Nat.pow_succ',Nat.mul_comm]
def allL(l:List Int):List UInt8:=l.flatMap fun n=>rawL (sizeL n) n.toNat
theorem allL_snoc(l:List Int)(k:Nat)(h:k<l.length):allL (l.take (k+1))=allL (l.take k)++rawL (sizeL l[k]) l[k].toNat:=by rw[List.take_succ_eq_append_getElem h];simp only[allL,List.flatMap_append,List.flatMap_cons,List.flatMap_nil,List.append_nil]
theorem sizeL_le(n:Int):sizeL n<=4:=by unfold sizeL;repeat (split<;>try omega)
theorem allL_le(l:List Int):(allL l).length<=4*l.length:=by
 induction l with
 | nil=>simp[allL]
 |cons n l ih=>
  have h:allL (n::l)=rawL (sizeL n) n.toNat++allL l:=by simp[allL]
  rw[h,List.length_append,rawL_len,List.length_cons];have:=sizeL_le n;omega
theorem Tryz.eByte:ElemT prog 22 5 (.int .u8 0) 1 1:=⟨underlying22,by kernel_rfl,rfl⟩
theorem Tryz.infoB:(prog.info? 5).map (fun i=>(i.zero,i.size,i.bytes))=some (some (.int .u8 0),1,1):=by kernel_rfl
theorem bs_snoc(l:List UInt8)(x:UInt8):bs (l++[x])=bs l++[.int .u8 x.toNat]:=by simp[bs]
theorem byteL_int(n:Nat):((if n<128 then n else n%128+128:Nat):Int)=((byteL n).toNat:Int):=by unfold byteL;split<;>simp<;>omega
def AllOk(l:List Int)(w:World)(e:Ending)(w':World):Prop:=
 ∃v,e=.returned (.tuple #[v,.int .i64 0])/\w'.ownsRow w.heap.size 5 1 v (allL l).length (bs (allL l))/\Below w.heap.size w w'
theorem len_all(a:Option Addr)(n cap:Nat)(l:List Int)(w:World)(h:RowAt w a n cap (ns .i64 l))(hn:n<=1000000)(hl:∀x∈l,mayL x=true):
  Calls prog 159 #[.slice a n cap] w (AllOk l w):=by
 have hlen:l.length=n:=by have:=h.len;rwa [ns_len]at this
 have HL:=hid hlen;clear hlen;have HC:=hid (containsFunc_i64 216 #[] (fun x=> !mayL x) a n cap l w h (enters_of func216 (by kernel_rfl) rfl) (fun x=>len_all1 x w));rw[idxOf_none (fun x=> !mayL x) l (fun x hx=>by simp[hl x hx])]at HC;obtain⟨i0,hi,hz0,hz1,hz2⟩:=info_parts Tryz.infoB;go_enter func159,ntmps159;go_wp2_with fail
 apply wp_scope_fwd 0 rfl;go_wp2_with fail
 refine HC.mono ?_;rintro e w' ⟨rfl,rfl⟩;go_wp2_with fail
 go_loopw [2,11] (fun v i wr=>∃k:Nat,k<=n/\i=.int .i64 k/\wr.ownsRow w.heap.size 5 1 v (allL (l.take k)).length (bs (allL (l.take k)))/\Below w.heap.size w wr) (fun _ i _=>n-(intOf i).toNat)
 case atStart=>exact⟨0,Nat.zero_le _,rfl,World.ownsRow_nil _ _ _ _,Below.refl _ _⟩
 case round=>
  obtain⟨k,hk,rfl,hown,hbel⟩:=hrel;by_cases hlt:k<n
  ·obtain⟨b,off,ha,hcell⟩:=(h.below hbel).num hlt;subst ha;have hx:mayL (l[k]?.getD 0)=true:=by have:=HL.out;rw[List.getElem?_eq_getElem (by omega)];exact hl _ (List.getElem_mem _)
   obtain⟨x,hX⟩:∃x,x=l[k]?.getD 0:=⟨_,rfl⟩;rw[<-hX]at hcell hx;obtain⟨h0,h5⟩:=(mayL_iff x).1 hx;obtain⟨m,rfl⟩:=Int.eq_ofNat_of_zero_le h0;have HX:=hid hX;clear hX hx h0;have hle4:=sizeL_le m;go_wp2_with fail
   refine(len_bytes _ _).mono ?_;rintro e w1 ⟨rfl,rfl⟩;go_wp2_with fail
   refine(len_size _ _).mono ?_;rintro e w2 ⟨rfl,hb2⟩;generalize hS:sizeL m=s at*
   have HS:=hid hS;clear hS;have hbox:Boxed w2 wr.heap.size 2 (.int .i64 m):=boxed_below (Boxed.new _ _ _) (hb2.mono (by simp));have hown2:=ownsRow_below (hown.alloc (.cells #[.int .i64 m] 2)) hb2;have hbel2:Below w.heap.size w w2:=(hbel.alloc hbel.size _).trans (hb2.mono (by have:=hbel.size;simp;omega));have hBsz:w.heap.size<=wr.heap.size:=hbel.size;have hpl:=allL_le (l.take k);have hpl2:(l.take k).length<=k:=List.length_take_le _ _;generalize hP:allL (l.take k)=pre at*
   have HP:=hid hP;clear hP;generalize hB:wr.heap.size=B at*
   clear hB hbel hown hb2 hcell h;go_wp2_with fail;go_loopw [2,19] (fun v i wq=>∃j:Nat,j<=s/\i=.int .i64 j/\Boxed wq B 2 (.int .i64 (m / 128^j:Nat))/\wq.ownsRow w.heap.size 5 1 v (pre++rawL j m).length (bs (pre++rawL j m))/\Below w.heap.size w wq) (fun _ i _=>s-(intOf i).toNat)
   case atStart=>exact⟨0,Nat.zero_le _,rfl,by simpa using hbox,by simpa[rawL]using hown2,hbel2⟩
   case round=>
    obtain⟨j,hj,rfl,hbx,how,hbl⟩:=hrel;clear hbox hown2 hbel2;by_cases hjs:j<s
    ·obtain⟨q,hQ⟩:∃q,q=m / 128^j:=⟨_,rfl⟩;have hqm:q<=m:=by rw[hQ];exact Nat.div_le_self _ _
     rw[<-hQ]at hbx;have HQ:=hid hQ;clear hQ;have hrl:=rawL_len j m;have hBw:=hbl.size;obtain⟨y,hy⟩:∃y:UInt8,y=byteL q:=⟨_,rfl⟩;have HY:=hid hy;clear hy;have hY:((if q<128 then q else q%128+128:Nat):Int)=(y.toNat:Int):=by rw[HY.out];exact byteL_int q
     have HC1:=len_bytes1 q B wr (by omega) hbx.cell hbx.frozen;rw[hY]at HC1;have HC1':=hid HC1;clear HC1 hY;generalize hZ:pre++rawL j m=z at*
     have hzl:z.length<=4*1000000+4:=by rw[<-hZ,List.length_append,hrl];omega
     have HZ:=hid hZ;clear hZ hrl;have how2:=ownsRow_setCell_other how (a:=⟨B,0,none⟩) (fun e=>hbx.not_row (by decide) how e.symm) (.int .i64 (q / 128:Nat));have hbx2:=hbx.set (.int .i64 (q / 128:Nat));have hbl2:=hbl.setCell (p:=⟨B,0,none⟩) (by simpa using hBsz) (.int .i64 (q / 128:Nat));go_wp2_with fail
     refine HC1'.mono ?_;rintro e w3 ⟨rfl,hw3⟩;rw[hw3]at how2 hbx2 hbl2;clear hw3 HC1';have hs3:=hbl2.size;go_wp2_with (at_builtin;refine append_one rfl _ _ rfl Tryz.eByte w.heap.size _ _ _ rfl how2 (.int .u8 y.toNat) rfl rfl (by omega) (by omega) (by omega) ?_;intro v' w4 how4 hg4)
     go_roundw
     case rel=>
      refine⟨j+1,by omega,by go_num,?_,?_,?_⟩
      ·have h1:=hbx2.kept hg4 (hbx2.not_row (by decide) how2);rw[HQ.out,Nat.div_div_eq_div_mul,<-Nat.pow_succ]at h1;exact h1
      ·have h1:=rawL_snoc j m;rw[h1,<-HQ.out,<-HY.out,<-List.append_assoc,HZ.out,bs_snoc,List.length_append];exact how4
      exact hbl2.grown hg4 (by omega) (fun k hk=>(how2.lt k hk).1)
     case measure=>simp[intOf];omega
    obtain rfl:j=s:=by omega
    clear hjs;go_wp2;go_roundw
    case rel=>refine⟨k+1,by omega,by go_num,?_,hbl⟩;have hl2:=HL.out;rw[allL_snoc l k (by omega),HP.out];have h1:=HX.out;rw[List.getElem?_eq_getElem (by omega),Option.getD_some]at h1;rw[<-h1,HS.out,Int.toNat_natCast];exact how
    case measure=>simp[intOf];omega
  obtain rfl:k=n:=by omega
  clear hlt;go_wp2;rw[exitFwd_ret]
  go_ret2
  have hl2:=HL.out;rw[List.take_of_length_le (by omega)]at hown;exact⟨_,rfl,hown,hbel⟩
section
open Go.RowKit
def bitAt(W:Nat->Nat)(n:Nat):Bool:=(W (n / 64)).testBit (n%64)
def bitsTo(T:Nat)(W:Nat->Nat):List Nat:=(List.range T).filter (bitAt W)
theorem bitsTo_len(W:Nat->Nat)(T:Nat):(bitsTo T W).length<=T:=by unfold bitsTo;have:=List.length_filter_le (bitAt W) (List.range T);simpa using this
end
end Go.Proofs.YtkghejaimhoboaaGreatDoor
