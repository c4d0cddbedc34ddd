/- Parts of the proof of ScriptTurns. -/
import Derived.WalkKit
import Derived.WalkSpells
import Derived.WalkLawsBesides
import Derived.Deep.LoopGhost
import Derived.RangeFuncNested
import Derived.RangeFuncBound
import Derived.RangeFuncCalls
import Derived.RangeFuncLeaves
import Derived.OwnWalkIn
import Derived.Shelf.Abstract
import Derived.Shelf.RegionOpen
import Derived.TacticsInMore
import Derived.LoopNIn
import Derived.LoopIn
import Derived.ScopeJumps
import Derived.WalkMore
import Derived.BigQuiet
import Derived.Deep.QuietTactic
import Derived.Deep.RegionWith
import Derived.Test.YtkghejaimhoboaaGreatDoorProg
import Derived.Deep.RegionHeld3
import Derived.Laws.FloatArith
import Derived.Laws.Bits128
import Derived.Lib.TrailingZeros
set_option linter.unusedSimpArgs false
set_option linter.unusedVariables false
set_option maxRecDepth 100000
set_option maxHeartbeats 8000000
namespace Go.Proofs.YtkghejaimhoboaaGreatDoor
open Go.RowKit Go.Shelf Go.Proofs.Tryz
theorem ae{α:Sort _}(a:α):∃x,a=x:=⟨_,rfl⟩
theorem ai{n:Nat}{w:World}:Below n w w:=Below.refl _ _
theorem ah{n:Nat}:n<=n:=Nat.le_refl _
section
theorem af{p:Prop}(h:p):Hid p:=h
def bs(l:List UInt8):List Value:=l.map fun x=>.int .u8 x.toNat
def ns(k:IntKind)(l:List Int):List Value:=l.map (.int k)
structure ax (w:World)(a:Option Addr)(n cap:Nat)(cs:List Value):Prop where
 len:cs.length=n
 le:n<=cap
 max:cap<=maxLen
 hnil:a=none->cap=0
 cells:∀i,i<n->∃b off,a=some ⟨b,off,none⟩/\w.cell? ⟨b,off+i,none⟩=cs[i]?
theorem cV(l:List UInt8):(bs l).length=l.length:=by simp[bs]
theorem Ck(k:IntKind)(l:List Int):(ns k l).length=l.length:=by simp[ns]
theorem Rq(l:List UInt8)(i:Nat)(h:i<l.length):(bs l)[i]?=some (.int .u8 ((l[i]?.getD 0).toNat:Int)):=by simp[bs,List.getElem?_eq_getElem h]
theorem JJ(k:IntKind)(l:List Int)(i:Nat)(h:i<l.length):(ns k l)[i]?=some (.int k (l[i]?.getD 0)):=by simp[ns,List.getElem?_eq_getElem h]
theorem ax.byte{w:World}{a:Option Addr}{n cap:Nat}{l:List UInt8}(h:ax w a n cap (bs l)){i:Nat}(hi:i<n):
  ∃b off,a=some ⟨b,off,none⟩/\w.cell? ⟨b,off+i,none⟩=some (.int .u8 ((l[i]?.getD 0).toNat:Int)):=by
 obtain⟨b,off,ha,hc⟩:=h.cells i hi;exact⟨b,off,ha,hc.trans (Rq l i (by have:=h.len;rw[cV]at this;omega))⟩
theorem ax.num{w:World}{a:Option Addr}{n cap:Nat}{k:IntKind}{l:List Int}(h:ax w a n cap (ns k l)){i:Nat}(hi:i<n):
  ∃b off,a=some ⟨b,off,none⟩/\w.cell? ⟨b,off+i,none⟩=some (.int k (l[i]?.getD 0)):=by
 obtain⟨b,off,ha,hc⟩:=h.cells i hi;exact⟨b,off,ha,hc.trans (JJ k l i (by have:=h.len;rw[Ck]at this;omega))⟩
theorem ax.empty(w:World):ax w none 0 0 []:=⟨rfl,Nat.le_refl _,Nat.zero_le _,fun _=>rfl,fun i hi=>absurd hi (Nat.not_lt_zero _)⟩
theorem gJ{w:World}{p:Addr}{v:Value}(h:w.cell? p=some v):p.block<w.heap.size:=by
 unfold World.cell? at h;by_cases hlt:p.block<w.heap.size
 ·exact hlt
 rw[Array.getElem?_eq_none (by omega)]at h;simp at h
theorem ax.ag{w w':World}{a:Option Addr}{n cap:Nat}{cs:List Value}(h:ax w a n cap cs)(hb:Below w.heap.size w w'):ax w' a n cap cs:=
 ⟨h.len,h.le,h.max,h.hnil,fun i hi=>by
  obtain⟨b,off,ha,hc⟩:=h.cells i hi;have hs:w.cell? ⟨b,off+i,none⟩=some (cs[i]'(by have:=h.len;omega)):=by rw[hc];exact List.getElem?_eq_getElem _
  exact⟨b,off,ha,(hb.cell (p:=⟨b,off+i,none⟩) (gJ hs)).trans hc⟩⟩
theorem ax.gK{w:World}{base:Nat}{e:TypeId}{v:Value}{n:Nat}{xs:List Value}(h:w.ownsRow base e 1 v n xs):
  ∃a cap,v=.slice a n cap/\ax w a n cap xs:=by
 obtain⟨hl,⟨rfl,rfl⟩ | ⟨g,cap,cur,rfl,hb,hg,hn,hm,hc,ht⟩⟩:=h
 ·refine⟨none,0,rfl,?_⟩;have:xs=[]:=List.eq_nil_of_length_eq_zero (by simpa using hl);subst this;exact ax.empty w
 refine⟨_,_,rfl,by simpa using hl,hn,hm,(fun e=>by cases e),fun i hi=>⟨g,0,rfl,?_⟩⟩;have h1:cur.size=cap:=by simpa using hc
 have hlt:i<cur.size:=by omega
 have hx:xs[i]?=some cur[i]:=by rw[<-ht,List.getElem?_take_of_lt (by simpa using hi)];simp[hlt]
 rw[hx];simp[World.cell?,hg,hlt]
theorem ax.new(w:World)(cs:Array Value)(T:TypeId)(fz:Nat×Nat)(h:cs.size<=maxLen):ax (w.alloc (.cells cs T fz)) (some ⟨w.heap.size,0,none⟩) cs.size cs.size cs.toList:=
 ⟨by simp,Nat.le_refl _,h,(fun e=>by cases e),fun i hi=>⟨w.heap.size,0,rfl,by have h1:=World.alloc_heap_new w (.cells cs T fz);unfold World.cell?;dsimp only;rw[h1];simp[hi]⟩⟩
theorem ax.take{w:World}{a:Option Addr}{n cap:Nat}{cs:List Value}(h:ax w a n cap cs)(k:Nat)(hk:k<=n):ax w a k cap (cs.take k):=
 ⟨by have:=h.len;simp;omega,by have:=h.le;omega,h.max,h.hnil,fun i hi=>by obtain⟨b,off,ha,hc⟩:=h.cells i (by omega);exact⟨b,off,ha,by rw[hc,List.getElem?_take_of_lt hi]⟩⟩
theorem ax.sub{w:World}{b off:Nat}{n cap:Nat}{cs:List Value}(h:ax w (some ⟨b,off,none⟩) n cap cs){i j:Nat}(UT:i<=j)(hj:j<=n){a':Option Addr}{n' cap':Nat}
  (ha:i<cap->a'=some ⟨b,off+i,none⟩) (hn:n'=j-i) (hc:cap'=cap-i):ax w a' n' cap' ((cs.take j).drop i):=by
 subst hn hc;refine⟨by have:=h.len;simp;omega,by have:=h.le;omega,by have:=h.max;omega,fun e=>by
  rcases Nat.lt_or_ge i cap with hlt | jw
  ·rw[ha hlt]at e;cases e
  omega,fun k hk=>?_⟩
 obtain⟨b',af9,hb,hcell⟩:=h.cells (i+k) (by omega);cases hb;refine⟨b,off+i,ha (by have:=h.le;omega),?_⟩;rw[Nat.add_assoc,hcell,List.getElem?_drop,List.getElem?_take_of_lt (by omega)]
theorem pV(l:List UInt8)(k:Nat):(bs l).take k=bs (l.take k):=by simp[bs]
theorem dV(l:List UInt8)(k:Nat):(bs l).drop k=bs (l.drop k):=by simp[bs]
theorem eI{w:World}{p:Addr}{v:Value}(h:w.cell? p=some v)(o:Obj):(w.alloc o).cell? p=some v:=
 (((Below.refl w.heap.size w).alloc ah o).cell (p:=p) (gJ h)).trans h
theorem ax.alloc{w:World}{a:Option Addr}{n cap:Nat}{cs:List Value}(h:ax w a n cap cs)(o:Obj):ax (w.alloc o) a n cap cs:=
 h.ag (ai.alloc ah o)
theorem aT{w:World}{base base':Nat}{e:TypeId}{size:Nat}{v:Value}{n:Nat}{xs:List Value}(h:w.ownsRow base e size v n xs)(hb:base'<=base):
  w.ownsRow base' e size v n xs:=by
 obtain⟨hl,h | ⟨g,cap,cur,rfl,hg,h⟩⟩:=h
 ·exact⟨hl,.inl h⟩
 exact⟨hl,.inr ⟨g,cap,cur,rfl,by omega,h⟩⟩
theorem aB{w w':World}{base:Nat}{e:TypeId}{size:Nat}{v:Value}{n:Nat}{xs:List Value}(h:w.ownsRow base e size v n xs)(hb:Below w.heap.size w w'):
  w'.ownsRow base e size v n xs:=by
 obtain⟨hl,h | ⟨g,cap,cur,rfl,hg,hh,h⟩⟩:=h
 ·exact⟨hl,.inl h⟩
 exact⟨hl,.inr ⟨g,cap,cur,rfl,hg,(hb.block g (Array.getElem?_eq_some_iff.1 hh).1).trans hh,h⟩⟩
theorem aF{w w':World}{B:Nat}{t:TypeId}{v:Value}(h:Boxed w B t v)(hb:Below w.heap.size w w'):Boxed w' B t v:=
 (hb.block B h.lt).trans h
theorem eR{W:World}{B:Nat}{c:Array Value}{t e:TypeId}{f:Nat×Nat}(h:W.heap[B]?=some (.cells c t f))(hte:t≠e){base size k:Nat}{v:Value}{xs:List Value}(hr:W.ownsRow base e size v k xs):some B≠v.ownBlock:=by
 obtain⟨_,⟨rfl,_⟩ | ⟨g,cap,cur,rfl,_,hg,_⟩⟩:=hr
 ·simp[Value.ownBlock]
 intro he;simp only[Value.ownBlock,Option.some.injEq]at he;subst he;rw[h]at hg;cases hg;exact hte rfl
/-! ### x[i:j],whatever the address -/
def eJ(a:Option Addr)(cap i:Nat):Option Addr:=if cap=i then a else a.map (·.add i)
theorem ax.cut{w:World}{a:Option Addr}{n cap:Nat}{cs:List Value}(h:ax w a n cap cs){i j:Nat}(UT:i<=j)(hj:j<=n):ax w (eJ a cap i) (j-i) (cap-i) ((cs.take j).drop i):=by
 refine⟨by have:=h.len;simp;omega,by have:=h.le;omega,by have:=h.max;omega,fun e=>by
  have:a=none:=by
   unfold eJ at e;split at e
   ·exact e
   simpa using e
  rw[h.hnil this];exact Nat.zero_sub _,fun k hk=>?_⟩
 obtain⟨b,off,hb,hcell⟩:=h.cells (i+k) (by omega);subst hb;have hne:cap≠i:=by have:=h.le;omega
 refine⟨b,off+i,?_,?_⟩
 ·unfold eJ;rw[if_neg hne];by_cases h0:i=0
  ·subst h0;simp[Addr.add]
  simp[Addr.add,h0]
 rw[Nat.add_assoc,hcell,List.getElem?_drop,List.getElem?_take_of_lt (by omega)]
theorem ax.from{w:World}{a:Option Addr}{n cap:Nat}{cs:List Value}(h:ax w a n cap cs){i:Nat}(hi:i<=n):ax w (eJ a cap i) (n-i) (cap-i) (cs.drop i):=by
 have h1:=h.cut hi (Nat.le_refl n)
 rwa [List.take_of_length_le (by have:=h.len;omega)]at h1
theorem ck{P:Program}{t:TypeId}(ht:P.underlying t=some (.slice (P.elem t)))(hs:∀W,(sizeOf (P.elem t)).run P W=.ok 1 W)(a:Option Addr)(n cap:Nat)(i:Int)(i':Nat)(hi:i=i')(cd:i'<=n)(W:World):
  (Instr.slice t (.slice a n cap) (some (.int .i64 i)) none none).run P W=.ok (.slice (eJ a cap i') (n-i') (cap-i')) W:=by
 subst hi;rw[run_slice_l W t a n cap ht .i64 _ (by omega) (by omega),hs];simp[Result.andThen,sliced,eJ]
/-! ### Append -/
structure fL (P:Program)(t e:TypeId)(z:Value)(size bytes:Nat):Prop where
 ht:P.underlying t=some (.slice e)
 info:(P.info? e).map (fun i=>(i.zero,i.size,i.bytes))=some (some z,size,bytes)
 hzs:z.cells.size=size
theorem vS{a b c:World}{row:Option Nat}(h:a.grownBy b none)(k:b.grownBy c row):a.grownBy c row:=
 ⟨k.os.trans h.os,k.tape.trans h.tape,k.output.trans h.output,Nat.le_trans h.size k.size,fun i hi hr=>(k.block i (Nat.lt_of_lt_of_le hi h.size) hr).trans (h.block i hi (by simp))⟩
theorem kH{P:Program}{w:World}{o:Oper}{a:Act}{K:Act->World->Prop}{Q:Exit->Act->World->Prop}{t e:TypeId}{z:Value}{bytes:Nat}(s x:Operand)
  (ho:o.op=.call {callee:=.builtin .append,args:=#[s,x],argTypes:=#[t,t]}) (E:fL P t e z 1 bytes)
  (base:Nat) (v:Value) (n:Nat) (xs:List Value) (hs:a.eval s=v) (hown:w.ownsRow base e 1 v n xs) (u:Value) (hu:u.oneCell'=true) {T:TypeId}
  (hx:a.eval x=.slice (some ⟨w.heap.size,0,none⟩) 1 1) (h63:n<140737488355328) (hbytes:(n+1)*bytes<=140737488355328) (hbase:base<=w.heap.size)
  (h:∀v' w',w'.ownsRow base e 1 v' (n+1) (xs++[u])->w.grownBy w' v.ownBlock->K (a.put o.dst v') w'):o.wp P a (w.alloc (.cells #[u] T)) K Q:=by
 obtain⟨i,hi,hz0,hz1,hz2⟩:=info_parts E.info;refine wp_append_own _ s x t ho base e i z 1 bytes E.ht hi hz0 hz1 hz2 E.hzs (by decide) v n xs hs (hown.alloc _) ⟨w.heap.size,0,none⟩ 1 1 [u] hx rfl ?_ ?_ ?_ hbytes ?_ ?_
 ·intro j u' hj
  match j,hj with
  | 0,hj=>simp at hj;subst hj;exact cell_one_new _ _ _ 0 _ (by simp)
 ·intro u' h';simp at h';subst h';exact hu
 ·unfold maxLen;omega
 ·simp;omega
 intro v' w' h1 h2 _;exact h v' w' h1 (vS (World.grownBy_alloc w _ none) h2)
theorem dt{P:Program}{w:World}{ops:Array Oper}{rest:List Oper}{o:Oper}{a:Act}{Q:Exit->Act->World->Prop}{t e:TypeId}{z:Value}{bytes:Nat}(hgd:o.guard=none)(s x:Operand)
  (ho:o.op=.call {callee:=.builtin .append,args:=#[s,x],argTypes:=#[t,t]}) (E:fL P t e z 1 bytes)
  (base:Nat) (v:Value) (n:Nat) (xs:List Value) (hs:a.eval s=v) (hown:w.ownsRow base e 1 v n xs) (u:Value) (hu:u.oneCell'=true) {T:TypeId}
  (hx:a.eval x=.slice (some ⟨w.heap.size,0,none⟩) 1 1) (h63:n<140737488355328) (hbytes:(n+1)*bytes<=140737488355328) (hbase:base<=w.heap.size)
  (h:∀v' w',w'.ownsRow base e 1 v' (n+1) (xs++[u])->w.grownBy w' v.ownBlock->wpList P ops Q rest (a.put o.dst v') w'):wpList P ops Q (o::rest) a (w.alloc (.cells #[u] T)):=
 wpList_plain hgd fun _ hK=>kH s x ho E base v n xs hs hown u hu hx h63 hbytes hbase fun v' w' h1 h2=>hK _ _ (h v' w' h1 h2)
def idxOf{α:Type}(p:α->Bool):List α->Int
 | []=> -1
 | x::l=>if p x then 0 else(let r:=idxOf p l;if r<0 then -1 else r+1)
theorem jG{α:Type}(p:α->Bool)(l:List α)(h:∀x∈l,p x=false):idxOf p l= -1:=by
 induction l with
 | nil=>rfl
 | cons x l ih=>simp[idxOf,h x (by simp),ih (fun y hy=>h y (by simp[hy]))]
theorem eO{α:Type}(p:α->Bool)(l:List α)(k:Nat)(hk:k<l.length)(h:∀j (hj:j<k),p (l[j]'(by omega))=false)(hp:p l[k]=true):idxOf p l=k:=by
 induction l generalizing k with
 | nil=>simp at hk
 | cons x l ih=>
  cases k with
  | zero=>simp at hp;simp[idxOf,hp]
  |succ k=>have h0:=h 0 (by omega);simp at h0;have:=ih k (by simpa using hk) (fun j hj=>by simpa using h (j+1) (by omega)) (by simpa using hp);simp[idxOf,h0,this];omega
theorem tW{α:Type}(p:α->Bool)(l:List α):idxOf p l<l.length/\ -1<=idxOf p l:=by
 induction l with
 | nil=>simp[idxOf]
 |cons x l ih=>
  simp only[idxOf,List.length_cons];split
  ·omega
  split<;>omega
/-! ### A scope whose gotos all lead forward to one label -/
def ER(P:Program)(l:Nat)(rest:Code)(Q:Exit->Act->World->Prop):Exit->Act->World->Prop
 | .goto l',a,w=>l'=l/\rest.wp P (Exit.noGoto Q) a w
 | .normal,a,w=>Q .normal a w
 | .exit i,a,w=>Q (.exit i) a w
 | .ret,a,w=>Q .ret a w
 | .panic c,a,w=>Q (.panic c) a w
 | .outgrown,a,w=>Q .outgrown a w
section
variable {P:Program} {l:Nat} {rest:Code} {Q:Exit->Act->World->Prop} {a:Act} {w:World}
@[go_sem] theorem rV:ER P l rest Q .ret a w=Q .ret a w:=rfl
theorem fI{c:Code}(l:Nat)(hf:findLabel c l=some rest)(h:c.wp P (ER P l rest Q) a w):(Code.scope c).wp P Q a w:=by
 refine wp_scope_jumps l (fun a w=>rest.wp P (Exit.noGoto Q) a w) (fun _ _=>0) hf ?_ ?_
 ·refine wp_mono h ?_;intro e a' w' hq;cases e<;>exact hq
 intro a w hJ;refine wp_mono hJ ?_;intro e a' w' hq;cases e with
 | goto l'=>exact absurd hq (by simp[Exit.noGoto])
 | normal=>exact hq
 | exit i=>exact hq
 | ret=>exact hq
 | panic c=>exact hq
 | outgrown=>exact hq
end
end
def ia(r:Int):Bool:=decide (0<=r)&&decide (r<=1114111)&&(decide (r<55296)||decide (57343<r))
theorem jH(r:Int):ia r=true↔0<=r/\r<=1114111/\(r<55296\/57343<r):=by simp[ia,and_assoc]
def b8(n:Nat):UInt8:=UInt8.ofNat n
theorem dZ(n:Nat)(h:n<256):(b8 n).toNat=n:=by unfold b8;simp;omega
def cM(r:Nat):List UInt8:=
 if r<128 then[b8 r]
 else if r<2048 then[b8 (192+r / 64),b8 (128+r%64)]
 else if r<65536 then[b8 (224+r / 4096),b8 (128+r / 64%64),b8 (128+r%64)]
 else[b8 (240+r / 262144),b8 (128+r / 4096%64),b8 (128+r / 64%64),b8 (128+r%64)]
def gF(r:Nat):Nat:=if r<128 then 1 else if r<2048 then 2 else if r<65536 then 3 else 4
theorem zx(r:Nat):(cM r).length=gF r:=by
 unfold cM gF
 repeat' split
 all_goals simp
theorem xS(r:Nat):1<=gF r/\gF r<=4:=by unfold gF;(repeat' split)<;>omega
def iD(s:List UInt8)(i:Nat):Nat:=(s[i]?.getD 0).toNat
theorem jI(s:List UInt8)(i:Nat):iD s i<256:=(s[i]?.getD 0).toNat_lt
def ie(n:Nat)(s:List UInt8):Nat:=
 match n with
 | 1=>iD s 0
 | 2=>iD s 0%64*64+iD s 1%64
 | 3=>(iD s 0%32*64+iD s 1%64)*64+iD s 2%64
 | 4=>((iD s 0%16*64+iD s 1%64)*64+iD s 2%64)*64+iD s 3%64
 | _=>0
def tX(n:Nat)(s:List UInt8):Bool:=decide (n<=s.length)&&decide (ie n s≠0)&&ia (ie n s)&&(cM (ie n s)==s.take n)
def aU(s:List UInt8):Nat×Nat:=
 if tX 1 s then(ie 1 s,1)else if tX 2 s then(ie 2 s,2)else if tX 3 s then(ie 3 s,3)else if tX 4 s then(ie 4 s,4)else(0,0)
theorem pW(n:Nat)(s:List UInt8):ie n s<4194304:=by have h0:=jI s 0;unfold ie;split<;>omega
theorem jh(n:Nat)(s:List UInt8):tX n s=true↔n<=s.length/\ie n s≠0/\ia (ie n s)=true/\cM (ie n s)=s.take n:=by simp[tX,and_assoc]
theorem ES{n:Nat}{s:List UInt8}(h:tX n s=true):gF (ie n s)=n:=by obtain⟨h1,_,_,h4⟩:=(jh n s).1 h;rw[<-zx,h4,List.length_take];omega
theorem rW(s:List UInt8):aU s=(0,0)\/(∃r n,aU s=(r,n)/\r≠0/\ia r=true/\n=gF r/\n<=s.length/\cM r=s.take n):=by
 have key:∀n,tX n s=true->∃r m,((ie n s,n):Nat×Nat)=(r,m)/\r≠0/\ia r=true/\m=gF r/\m<=s.length/\cM r=s.take m:=fun n h=>by obtain⟨h1,h2,h3,h4⟩:=(jh n s).1 h;exact⟨_,_,rfl,h2,h3,(ES h).symm,h1,h4⟩
 unfold aU;split
 ·exact .inr (key 1 (by assumption))
 split
 ·exact .inr (key 2 (by assumption))
 split
 ·exact .inr (key 3 (by assumption))
 split
 ·exact .inr (key 4 (by assumption))
 exact .inl rfl
def i7:Nat->List UInt8->Nat->List Nat×Option Nat
 | 0,_,_=>([],none)
 |f+1,s,p=>
  if s=[]then([],none)
  else if (aU s).2=0\/65535<p+(aU s).2 then([],some p)
  else((aU s).1::(i7 f (s.drop (aU s).2) (p+(aU s).2)).1,(i7 f (s.drop (aU s).2) (p+(aU s).2)).2)
def fp(s:List UInt8)(p:Nat):List Nat×Option Nat:=i7 s.length s p
theorem rp(s:List UInt8):(aU s).2<=s.length:=by rcases rW s with h | ⟨r,n,h,_,_,_,h5,_⟩<;>rw[h]<;>simp<;>omega
theorem zy(f:Nat)(s:List UInt8)(p:Nat)(h:s.length<=f):i7 f s p=i7 s.length s p:=by
 induction f using Nat.strongRecOn generalizing s p with
 | _ f ih=>
  cases f with
  |zero=>
   have:s.length=0:=by omega
   rw[this]
  | succ f=>
   by_cases hs:s=[]
   ·subst hs;simp[i7]
   have hl:0<s.length:=List.length_pos_iff.2 hs;obtain⟨k,hk⟩:∃k,s.length=k+1:=⟨s.length-1,by omega⟩;rw[hk];simp only[i7,if_neg hs];split
   ·rfl
   rename_i eK;have h1:=rp s;have h2:0<(aU s).2:=by omega
   have e1:=ih f (by omega) (s.drop (aU s).2) (p+(aU s).2) (by simp;omega);have e2:=ih k (by omega) (s.drop (aU s).2) (p+(aU s).2) (by simp;omega);rw[e1,e2]
def kW(s:List UInt8)(p:Nat):Bool:=decide ((aU s).2=0)||decide (65535<p+(aU s).2)
theorem tY(p:Nat):fp [] p=([],none):=rfl
theorem tZ(s:List UInt8)(p:Nat)(hs:s≠[])(h:kW s p=true):fp s p=([],some p):=by obtain⟨k,hk⟩:∃k,s.length=k+1:=⟨s.length-1,by have:=List.length_pos_iff.2 hs;omega⟩;unfold fp;rw[hk];simp only[i7,if_neg hs];rw[if_pos (by simpa[kW]using h)]
theorem zA(s:List UInt8)(p:Nat)(hs:s≠[])(h:kW s p=false):
  fp s p=((aU s).1::(fp (s.drop (aU s).2) (p+(aU s).2)).1,(fp (s.drop (aU s).2) (p+(aU s).2)).2):=by
 obtain⟨k,hk⟩:∃k,s.length=k+1:=⟨s.length-1,by have:=List.length_pos_iff.2 hs;omega⟩;have hb:¬((aU s).2=0\/65535<p+(aU s).2):=by
  intro hb;have:kW s p=true:=by simpa[kW]using hb
  rw[h]at this;cases this
 have e:=zy k (s.drop (aU s).2) (p+(aU s).2) (by simp;omega);unfold fp;rw[hk];simp only[i7,if_neg hs,if_neg hb,e]
def iE:List UInt8->Nat->List (Nat×Nat)->List UInt8->Nat->Prop
 | s,p,[],s',p'=>s=s'/\p=p'
 | s,p,x::pre,s',p'=>s≠[]/\kW s p=false/\x=(p,(aU s).1)/\iE (s.drop (aU s).2) (p+(aU s).2) pre s' p'
theorem iE.snoc{s:List UInt8}{p:Nat}{pre:List (Nat×Nat)}{s':List UInt8}{p':Nat}(h:iE s p pre s' p')(hs:s'≠[])(hb:kW s' p'=false):
  iE s p (pre++[(p',(aU s').1)]) (s'.drop (aU s').2) (p'+(aU s').2):=by
 induction pre generalizing s p with
 | nil=>obtain⟨rfl,rfl⟩:=h;exact⟨hs,hb,rfl,rfl,rfl⟩
 | cons x pre ih=>exact⟨h.1,h.2.1,h.2.2.1,ih h.2.2.2⟩
theorem iE.zB{s:List UInt8}{p:Nat}{pre:List (Nat×Nat)}{s':List UInt8}{p':Nat}(h:iE s p pre s' p'):fp s p=(pre.map (·.2)++(fp s' p').1,(fp s' p').2):=by
 induction pre generalizing s p with
 | nil=>obtain⟨rfl,rfl⟩:=h;simp
 |cons x pre ih=>rw[zA s p h.1 h.2.1,ih h.2.2.2,h.2.2.1];simp
def kY(n:Int):Bool:=decide (0<=n)&&decide (n<=268435455)
theorem xT(n:Int)(w:World):
  Calls prog 217 #[.int .i64 n] w fun e w'=>e=.returned (.bool (kY n))/\w=w':=by
 unfold kY;go_enter func217,ntmps217;go_wp2
 all_goals go_ret
 all_goals (refine⟨?_,rfl⟩;simp_all)
 all_goals omega
theorem Cl(w:World):
  Calls prog 219 #[] w fun e w'=>e=.returned (.agg #[.int .i64 0,.int .i64 128,.int .i64 16384,.int .i64 2097152,.int .i64 268435456])/\Below w.heap.size w w':=by
 go_enter func219,ntmps219;go_wp2;refine wp_loop_rounds 5 ?_;rw[rounds_succ];go_wp2;rw[rounds_succ];go_wp2;rw[rounds_succ];go_wp2;rw[rounds_succ];go_wp2;rw[rounds_succ];go_wp2;exact bodyPost_ret (v:=.agg #[.int .i64 0,.int .i64 128,.int .i64 16384,.int .i64 2097152,.int .i64 268435456]) (by simp[results,results219,go_sem]) rfl
  ⟨rfl,(ai.alloc ah _).alloc (by simp) _⟩
theorem Gw(n x:Int)(b:Nat)(w:World)(hc:w.cell? ⟨b,0,none⟩=some (.int .i64 n)):
  Calls prog 221 #[.int .i64 x,.pointer (some ⟨b,0,none⟩)] w fun e w'=>e=.returned (.bool (decide (n<x)))/\w=w':=by
 go_enter func221,ntmps221;go_wp2;go_ret;exact⟨rfl,rfl⟩
theorem JK(x:Int)(w:World):
  Calls prog 216 #[.int .i64 x] w fun e w'=>e=.returned (.bool (!kY x))/\w=w':=by
 go_enter func216,ntmps216;go_wp2_with (go_at_call 217;refine(xT _ _).mono ?_;rintro e w' ⟨rfl,rfl⟩)
 go_ret;exact⟨rfl,rfl⟩
theorem Gx(x:UInt8)(w:World):
  Calls prog 163 #[.int .u8 x.toNat] w fun e w'=>e=.returned (.bool (decide (x.toNat<128)))/\w=w':=by
 go_enter func163,ntmps163;go_wp2;go_ret;refine⟨?_,rfl⟩;simp;omega
theorem ud(g:Nat)(lb:Array Value)(p:UInt8->Bool)(a:Option Addr)(n cap:Nat)(l:List UInt8)(w:World)(h:ax w a n cap (bs l))
 (eg:∀args w,(callFunc g args).run prog w=.ok (.enter g args) w) (hg:∀(x:UInt8),Calls prog g (#[.int .u8 x.toNat]++lb) w fun e w'=>e=.returned (.bool (p x))/\w=w'):
  Calls prog 162 #[.slice a n cap,.func (.func g) #[] lb] w fun e w'=>e=.returned (.int .i64 (idxOf p l))/\w=w':=by
 have hle:=h.le;have mM:=h.max;have hlen:l.length=n:=by have:=h.len;rwa [cV]at this
 have HL:=af hlen;clear hlen;have HG:=af hg;clear hg;unfold maxLen at mM;go_enter func162,ntmps162;go_wp2;go_loop [4,5,8] (fun _ _ i=>∃k:Nat,k<=n/\i=.int .i64 k/\Hid (∀j,j<k->p (l[j]?.getD 0)=false)) (fun _ _ i=>n-(intOf i).toNat)
 case atStart=>exact⟨0,Nat.zero_le _,rfl,fun j hj=>absurd hj (Nat.not_lt_zero _)⟩
 case round=>
  obtain⟨k,hk,rfl,hj⟩:=hrel;by_cases hlt:k<n
  ·obtain⟨b,off,ha,hcell⟩:=h.byte hlt;subst ha;clear h;go_wp2_with fail;refine(HG _).mono ?_;rintro e w' ⟨rfl,rfl⟩;cases hp:p (l[k]?.getD 0)
   ·go_wp2
    go_round
    case rel=>
     refine⟨k+1,by omega,by go_num,fun j hj'=>?_⟩;by_cases he:j=k
     ·subst he;exact hp
     exact hj j (by omega)
    case measure=>simp[intOf];omega
   go_wp2;go_ret;refine⟨?_,rfl⟩;have hl:=HL.out;rw[eO p l k (by omega) (fun j hj'=>by have:=hj j hj';rwa [List.getElem?_eq_getElem (by omega)]at this) (by rwa [List.getElem?_eq_getElem (by omega)]at hp)];rfl
  go_wp2;go_ret;refine⟨?_,rfl⟩;have hl:=HL.out;rw[jG p l (fun x hx=>by
   obtain⟨j,hj',rfl⟩:=List.getElem_of_mem hx;have:=hj j (by omega)
   rwa [List.getElem?_eq_getElem hj']at this)]
  rfl
theorem oz(g:Nat)(lb:Array Value)(p:Int->Bool)(a:Option Addr)(n cap:Nat)(l:List Int)(w:World)(h:ax w a n cap (ns .i64 l))
 (eg:∀args w,(callFunc g args).run prog w=.ok (.enter g args) w) (hg:∀(x:Int),Calls prog g (#[.int .i64 x]++lb) w fun e w'=>e=.returned (.bool (p x))/\w=w'):
  Calls prog 220 #[.slice a n cap,.func (.func g) #[] lb] w fun e w'=>e=.returned (.int .i64 (idxOf p l))/\w=w':=by
 have hle:=h.le;have mM:=h.max;have hlen:l.length=n:=by have:=h.len;rwa [Ck]at this
 have HL:=af hlen;clear hlen;have HG:=af hg;clear hg;unfold maxLen at mM;go_enter func220,ntmps220;go_wp2;go_loop [4,5,8] (fun _ _ i=>∃k:Nat,k<=n/\i=.int .i64 k/\Hid (∀j,j<k->p (l[j]?.getD 0)=false)) (fun _ _ i=>n-(intOf i).toNat)
 case atStart=>exact⟨0,Nat.zero_le _,rfl,fun j hj=>absurd hj (Nat.not_lt_zero _)⟩
 case round=>
  obtain⟨k,hk,rfl,hj⟩:=hrel;by_cases hlt:k<n
  ·obtain⟨b,off,ha,hcell⟩:=h.num hlt;subst ha;clear h;go_wp2_with fail;refine(HG _).mono ?_;rintro e w' ⟨rfl,rfl⟩;cases hp:p (l[k]?.getD 0)
   ·go_wp2
    go_round
    case rel=>
     refine⟨k+1,by omega,by go_num,fun j hj'=>?_⟩;by_cases he:j=k
     ·subst he;exact hp
     exact hj j (by omega)
    case measure=>simp[intOf];omega
   go_wp2;go_ret;refine⟨?_,rfl⟩;have hl:=HL.out;rw[eO p l k (by omega) (fun j hj'=>by have:=hj j hj';rwa [List.getElem?_eq_getElem (by omega)]at this) (by rwa [List.getElem?_eq_getElem (by omega)]at hp)];rfl
  go_wp2;go_ret;refine⟨?_,rfl⟩;have hl:=HL.out;rw[jG p l (fun x hx=>by
   obtain⟨j,hj',rfl⟩:=List.getElem_of_mem hx;have:=hj j (by omega)
   rwa [List.getElem?_eq_getElem hj']at this)]
  rfl
structure ak (M:List Nat)(w w':World):Prop where
 os:w'.os=w.os
 tape:w'.tape=w.tape
 output:w'.output=w.output
 size:w.heap.size<=w'.heap.size
 block:∀k,k<w.heap.size->k∉M->w'.heap[k]?=w.heap[k]?
theorem ak.refl(M:List Nat)(w:World):ak M w w:=⟨rfl,rfl,rfl,Nat.le_refl _,fun _ _ _=>rfl⟩
theorem ak.trans{M:List Nat}{a b c:World}(h:ak M a b)(k:ak M b c):ak M a c:=
 ⟨k.os.trans h.os,k.tape.trans h.tape,k.output.trans h.output,Nat.le_trans h.size k.size,fun i hi hm=>(k.block i (Nat.lt_of_lt_of_le hi h.size) hm).trans (h.block i hi hm)⟩
theorem ak.sub{M M':List Nat}{a b:World}(h:ak M a b)(hs:∀x∈M,x∈M'):ak M' a b:=
 ⟨h.os,h.tape,h.output,h.size,fun i hi hm=>h.block i hi (fun hx=>hm (hs i hx))⟩
theorem ak.ep{M:List Nat}{a b:World}{row:Option Nat}(h:a.grownBy b row)(hr:∀k,row=some k->k∈M):ak M a b:=
 ⟨h.os,h.tape,h.output,h.size,fun i hi hm=>h.block i hi (fun e=>hm (hr i e.symm))⟩
theorem ak.aK{M:List Nat}{a b:World}(h:Below a.heap.size a b):ak M a b:=⟨h.os,h.tape,h.output,h.size,fun i hi _=>h.block i hi⟩
theorem ak.alloc(M:List Nat)(w:World)(o:Obj):ak M w (w.alloc o):=ak.aK (ai.alloc ah o)
theorem ak.setCell{M:List Nat}(w:World)(p:Addr)(hp:p.block∈M)(v:Value):ak M w (w.setCell p v):=
 ⟨rfl,rfl,rfl,by simp[World.setCell],fun i hi hm=>Below.heap_setCell _ _ _ _ (fun e=>hm (e▸hp))⟩
theorem ak.putObj{M:List Nat}(w:World)(l:Nat)(hl:l∈M)(o:Obj):ak M w (w.putObj l o):=
 ak.ep (grownBy_putObj' w l o) (fun k e=>by cases e;exact hl)
theorem ak.ag{M:List Nat}{a b:World}{n₀:Nat}(h:ak M a b)(hn:n₀<=a.heap.size)(hM:∀x∈M,n₀<=x):Below n₀ a b:=
 ⟨h.os,h.tape,h.output,h.size,fun k hk=>h.block k (by omega) (fun hm=>by have:=hM k hm;omega)⟩
theorem ak.boxed{M:List Nat}{a b:World}{B:Nat}{t:TypeId}{v:Value}(h:ak M a b)(hB:B∉M)(hb:Boxed a B t v):Boxed b B t v:=(h.block B hb.lt hB).trans hb
theorem ak.row{M:List Nat}{a b:World}{base:Nat}{e:TypeId}{size:Nat}{v:Value}{n:Nat}{xs:List Value}(h:ak M a b)(hM:∀x∈M,x<base)(ho:a.ownsRow base e size v n xs):
  b.ownsRow base e size v n xs:=by
 obtain⟨hl,hx | ⟨g,cap,cur,rfl,hg,hh,hx⟩⟩:=ho
 ·exact⟨hl,.inl hx⟩
 exact⟨hl,.inr ⟨g,cap,cur,rfl,hg,(h.block g (Array.getElem?_eq_some_iff.1 hh).1 (fun hm=>by have:=hM g hm;omega)).trans hh,hx⟩⟩
structure dW (n₀:Nat)(L:List Nat)(w w':World):Prop where
 bel:Below n₀ w w'
 keep:∀k∈L,w'.heap[k]?=w.heap[k]?
theorem dW.refl(n₀:Nat)(L:List Nat)(w:World):dW n₀ L w w:=⟨Below.refl _ _,fun _ _=>rfl⟩
theorem dW.trans{n₀:Nat}{L:List Nat}{a b c:World}(h:dW n₀ L a b)(k:dW n₀ L b c):dW n₀ L a c:=⟨h.bel.trans k.bel,fun i hi=>(k.keep i hi).trans (h.keep i hi)⟩
theorem dW.aK{n₀:Nat}{L:List Nat}{a b:World}(h:Below a.heap.size a b)(hn:n₀<=a.heap.size)(hL:∀k∈L,k<a.heap.size):dW n₀ L a b:=⟨h.mono hn,fun k hk=>h.block k (hL k hk)⟩
theorem dW.JL{n₀:Nat}{L M:List Nat}{a b:World}(h:ak M a b)(hn:n₀<=a.heap.size)(hL:∀k∈L,k<a.heap.size)(hM:∀x∈M,n₀<=x)(hd:∀k∈L,k∉M):dW n₀ L a b:=
 ⟨h.ag hn hM,fun k hk=>h.block k (hL k hk) (hd k hk)⟩
theorem dW.setCell{n₀:Nat}{L:List Nat}(w:World)(p:Addr)(hn:n₀<=p.block)(hL:∀k∈L,k≠p.block)(v:Value):dW n₀ L w (w.setCell p v):=
 ⟨(Below.refl n₀ w).setCell hn v,fun k hk=>Below.heap_setCell _ _ _ _ (hL k hk)⟩
def Nz{α:Type}(P:Program)(g:Nat)(lb:Array Value)(vT:α->Array Value)(Kp Ab:World->World->Prop)(Nx:List α->α->World->Prop)(S Sp:List α->Prop)(w:World):Prop:=
 ∀(l:Nat)(J Jx:List α->World->Prop)(W:World),Below w.heap.size w W->w.heap.size<=l->
  (∀s A A',J s A->Ab A A'->J s A')->(∀s A A',Jx s A->Ab A A'->Jx s A')->
  (∀pre x W1,J pre W1->Nx pre x W1->YieldAt Fence.wide 0 P l (vT x) W1 fun e W'=>(e=.returned (.bool true)/\J (pre++[x]) W'/\Kp W1 W')\/(e=.returned (.bool false)/\Jx (pre++[x]) W'))->
  J [] W->
  CallsIn Fence.wide 0 P g (#[.func (.yield l) #[] #[]]++lb) W fun e W'=>(∃v,e=.returned v)/\((∃xs,S xs/\J xs W')\/(∃pre,Sp pre/\Jx pre W'))
def roundEnd{α:Type}(B:Nat)(Kp:World->World->Prop)(I:List α->World->Prop)(Ix:Code->List α->World->Prop)(xs:List α)(W:World):Exit->Act->World->Prop
 | .normal,_,W'=>dW 0 [B,B+1] W W'/\Kp W W'/\I xs W'
 | .ret,_,W'=>dW 0 [B,B+1] W W'/\Ix .ret xs W'
 | .exit id,_,W'=>dW 0 [B,B+1] W W'/\Ix (.exit id) xs W'
 | .goto t,_,W'=>dW 0 [B,B+1] W W'/\Ix (.goto t) xs W'
 | .panic _,_,_=>False
 | .outgrown,_,_=>False
theorem Gy{P:Program}{α:Type}{g:Operand}{ps:Array Tmp}{assign body:Code}{Q:Exit->Act->World->Prop}{a:Act}{w:World}
  {gf:Nat} {lb:Array Value} (hg:a.eval g=.func (.func gf) #[] lb) (eg:∀args w,(callFunc gf args).run P w=.ok (.enter gf args) w)
  {vT:α->Array Value} {Kp Ab:World->World->Prop} {Nx:List α->α->World->Prop} {S Sp:List α->Prop} (hseq:Nz P gf lb vT Kp Ab Nx S Sp w)
  (hKt:∀{A B C:World},Kp A B->Kp B C->Kp A C) (hKb:∀(W:World)(o:Obj),w.heap.size+1<W.heap.size->Kp W (W.putObj (w.heap.size+1) o))
  (hAb:∀A B,Ab A B->w.heap.size+1<A.heap.size->A.heap.size<=B.heap.size/\B.heap[w.heap.size]?=A.heap[w.heap.size]?/\B.heap[w.heap.size+1]?=A.heap[w.heap.size+1]?)
  (qX:∀x,(vT x).size=ps.size)
  (I:List α->World->Prop) (Ix:Code->List α->World->Prop)
  (hI:∀s A A',I s A->Ab A A'->I s A') (PU:∀c s A A',Ix c s A->Ab A A'->Ix c s A')
  (hIo:∀s A o,I s A->w.heap.size+1<A.heap.size->I s (A.putObj (w.heap.size+1) o)) (NA:∀c s A o,Ix c s A->w.heap.size+1<A.heap.size->Ix c s (A.putObj (w.heap.size+1) o))
  (h0:∀r,I [] ((w.alloc (.deferred (some []))).alloc (.loop r)))
  (Ax:List α->α->Act->World->Prop) (Rs:∀pre x a' A o,Ax pre x a' A->w.heap.size+1<A.heap.size->Ax pre x a' (A.putObj (w.heap.size+1) o))
  (xU:∀(pre:List α)(x:α)(W:World)(K:Act->World->Prop),w.heap.size+1<W.heap.size->I pre W->Nx pre x W->(∀a' W',dW 0 [w.heap.size,w.heap.size+1] W W'->Kp W W'->I pre W'->Ax pre x a' W'->K a' W')->
   assign.wpIn (Fence.wide.inRound (w.heap.size+1)) 0 P (Exit.then K (fun _ _ _=>False)) {tmps:=(ps.zip (vT x)).foldl (fun t (p,v)=>t.setIfInBounds p v) a.tmps,defers:=[]} W)
  (uf:∀(pre:List α)(x:α)(a':Act)(W:World),w.heap.size+1<W.heap.size->I pre W->Ax pre x a' W->body.wpIn (Fence.wide.inRound (w.heap.size+1)) 0 P (roundEnd w.heap.size Kp I Ix (pre++[x]) W) a' W)
  (hdone:∀(xs:List α)(W:World),S xs->I xs W->w.heap.size<W.heap.size->W.heap[w.heap.size]?=some (.deferred (some []))->Q .normal {a with defers:={target:=.collected w.heap.size,args:=#[]}::a.defers} W)
  (JM:∀(c:Code)(pre:List α)(W:World),Sp pre->Ix c pre W->w.heap.size<W.heap.size->W.heap[w.heap.size]?=some (.deferred (some []))->c.wp P Q {a with defers:={target:=.collected w.heap.size,args:=#[]}::a.defers} W):
  (Code.rangeFunc g ps assign body).wp P Q a w:=by
 refine(wpIn_wide (n:=0)).1 (wpIn_rangeFunc ?_);intro fn hfn;obtain⟨rec,mN⟩:∃rec:LoopState->Option Code->Loop,rec=fun st pe=>{state:=st,pending:=pe,fn,tmps:=a.tmps,params:=ps,assign,body,defers:=w.heap.size}:=⟨_,rfl⟩;obtain⟨W1,hW1⟩:=ae ((w.alloc (.deferred (some []))).alloc (.loop (rec .ready none)));have qY:W1.heap[w.heap.size+1]?=some (.loop (rec .ready none)):=by rw[<-hW1];have:=World.alloc_heap_new (w.alloc (.deferred (some []))) (.loop (rec .ready none));rwa [World.size_alloc]at this
 have hK1:W1.heap[w.heap.size]?=some (.deferred (some [])):=by rw[<-hW1];exact(Below.heap_alloc _ _ _ (by simp)).trans (World.alloc_heap_new w _)
 have hI1:I [] W1:=by rw[<-hW1];exact h0 _
 have hb1:Below w.heap.size w W1:=by rw[<-hW1];exact((Below.refl _ w).alloc ah _).alloc (by simp) _
 refine⟨w.heap.size+1,[{target:=.collected w.heap.size,args:=#[]}],W1,{target:=.fn (.func gf) lb,args:=#[.func (.yield (w.heap.size+1)) #[] #[]]},W1,gf,
  #[.func (.yield (w.heap.size+1)) #[] #[]]++lb,W1,?_,?_,fun _ _=>trivial,?_,fun h=>by simp[Fence.wide]at h,?_⟩
 ·rw[<-hW1,mN];exact run_enterLoop_outer _ _ _ _ _
 ·simp only[resolve,hg];simp[go_sem]
 ·simp[invoke,go_sem,eg]
 refine(hseq (w.heap.size+1)
  (fun pre W=>I pre W/\W.heap[w.heap.size+1]?=some (.loop (rec .ready none))/\W.heap[w.heap.size]?=some (.deferred (some [])))
  (fun pre W=>∃c,Ix c pre W/\W.heap[w.heap.size+1]?=some (.loop (rec .done (some c)))/\W.heap[w.heap.size]?=some (.deferred (some [])))
  W1 hb1 (Nat.le_succ _)
  (fun s A B hs hab=>by have hlt:=(Array.getElem?_eq_some_iff.1 hs.2.1).1;obtain⟨_,h1,h2⟩:=hAb A B hab hlt;exact⟨hI s A B hs.1 hab,h2.trans hs.2.1,h1.trans hs.2.2⟩)
  (fun s A B hs hab=>by obtain⟨c,hc,hl,hk⟩:=hs;have hlt:=(Array.getElem?_eq_some_iff.1 hl).1;obtain⟨_,h1,h2⟩:=hAb A B hab hlt;exact⟨c,PU c s A B hc hab,h2.trans hl,h1.trans hk⟩)
  ?_ ⟨hI1,qY,hK1⟩).mono ?_
 ·rintro pre x W ⟨hi,hl,hk⟩ oT;have hlt:w.heap.size+1<W.heap.size:=(Array.getElem?_eq_some_iff.1 hl).1;have hy:=run_yield (P:=P) (args:=vT x) hl (by rw[mN];exact qX x);rw[mN]at hy;refine⟨fn,_,assign,body,hy,roundIn_of_wpIn hfn (xU pre x W _ hlt hi oT ?_)⟩;clear hy;intro a' Wa hka aaw hia hax;have hla:=(hka.keep _ (by simp:w.heap.size+1∈_)).trans hl;have hda:=(hka.keep _ (by simp:w.heap.size∈_)).trans hk;have JN:w.heap.size+1<Wa.heap.size:=(Array.getElem?_eq_some_iff.1 hla).1;refine⟨_,run_beginRound hla (by rw[mN]),?_⟩;have hl2:(Wa.putObj (w.heap.size+1) (.loop {rec .ready none with state:=.busy})).heap[w.heap.size+1]?=some (.loop {rec .ready none with state:=.busy}):=World.putObj_heap_same JN;have hk2:(Wa.putObj (w.heap.size+1) (.loop {rec .ready none with state:=.busy})).heap[w.heap.size]?=some (.deferred (some [])):=(World.putObj_heap_other (by omega)).trans hda;refine wpIn_mono (uf pre x a' _ (by simpa using JN) (hIo _ _ _ hia JN) (Rs _ _ _ _ _ hax JN)) ?_;have fin:∀(jump:Option Code)(W3:World),dW 0 [w.heap.size,w.heap.size+1] (Wa.putObj (w.heap.size+1) (.loop {rec .ready none with state:=.busy})) W3->
    (Instr.endRound (w.heap.size+1) jump).run P W3=.ok (.bool jump.isNone) (W3.putObj (w.heap.size+1) (.loop (rec (if jump.isNone then .ready else .done) jump)))/\
    w.heap.size+1<W3.heap.size/\
    (W3.putObj (w.heap.size+1) (.loop (rec (if jump.isNone then .ready else .done) jump))).heap[w.heap.size+1]?=some (.loop (rec (if jump.isNone then .ready else .done) jump))/\
    (W3.putObj (w.heap.size+1) (.loop (rec (if jump.isNone then .ready else .done) jump))).heap[w.heap.size]?=some (.deferred (some [])):=fun jump W3 hk3=>by
   have ug:=(hk3.keep _ (by simp:w.heap.size+1∈_)).trans hl2;have:=run_endRound (P:=P) jump ug;rw[mN]at this ⊢;have h4:=(Array.getElem?_eq_some_iff.1 ug).1;exact⟨this,h4,World.putObj_heap_same h4,(World.putObj_heap_other (by omega)).trans ((hk3.keep _ (by simp:w.heap.size∈_)).trans hk2)⟩
  rintro e a3 W3 hp;cases e with
  |normal=>obtain⟨hk3,aax,Rt⟩:=hp;obtain⟨hr,ug,hl4,hk4⟩:=fin none W3 hk3;exact⟨_,_,hr,.inl ⟨rfl,⟨hIo _ _ _ Rt ug,hl4,hk4⟩,hKt aaw (hKt (hKt (hKb _ _ JN) aax) (hKb _ _ ug))⟩⟩
  |ret=>obtain⟨hk3,Rt⟩:=hp;obtain⟨hr,ug,hl4,hk4⟩:=fin (some .ret) W3 hk3;exact⟨_,_,hr,.inr ⟨rfl,.ret,NA _ _ _ _ Rt ug,hl4,hk4⟩⟩
  |exit id=>obtain⟨hk3,Rt⟩:=hp;obtain⟨hr,ug,hl4,hk4⟩:=fin (some (.exit id)) W3 hk3;exact⟨_,_,hr,.inr ⟨rfl,.exit id,NA _ _ _ _ Rt ug,hl4,hk4⟩⟩
  |goto t=>obtain⟨hk3,Rt⟩:=hp;obtain⟨hr,ug,hl4,hk4⟩:=fin (some (.goto t)) W3 hk3;exact⟨_,_,hr,.inr ⟨rfl,.goto t,NA _ _ _ _ Rt ug,hl4,hk4⟩⟩
  | panic ch=>exact hp.elim
  | outgrown=>exact hp.elim
 rintro e W2 ⟨⟨v,rfl⟩,(⟨xs,hS,hi,hl,hk⟩ | ⟨pre,hSp,c,hi,hl,hk⟩)⟩
 ·have h4:=(Array.getElem?_eq_some_iff.1 hl).1;exact⟨none,_,by have:=run_endLoop (P:=P) hl (by rw[mN];simp);rw[mN]at this;exact this,hdone xs _ hS (hIo _ _ _ hi h4) (by simp;omega) ((World.putObj_heap_other (by omega)).trans hk)⟩
 have h4:=(Array.getElem?_eq_some_iff.1 hl).1;exact⟨some c,_,by have:=run_endLoop (P:=P) hl (by rw[mN];simp);rw[mN]at this;exact this,wpIn_wide.2 (JM c pre _ hSp (NA _ _ _ _ hi h4) (by simp;omega) ((World.putObj_heap_other (by omega)).trans hk))⟩
def JO{α:Type}(B n₀:Nat)(L:List Nat)(I:List α->World->Prop)(Ix:Code->List α->World->Prop)(xs:List α)(W:World):Exit->Act->World->Prop
 | .normal,_,W'=>dW n₀ (B::(B+1)::L) W W'/\I xs W'
 | .ret,_,W'=>dW n₀ (B::(B+1)::L) W W'/\Ix .ret xs W'
 | .exit id,_,W'=>dW n₀ (B::(B+1)::L) W W'/\Ix (.exit id) xs W'
 | .goto t,_,W'=>dW n₀ (B::(B+1)::L) W W'/\Ix (.goto t) xs W'
 | .panic _,_,_=>False
 | .outgrown,_,_=>False
theorem dW.recs{n₀:Nat}{B:Nat}{L:List Nat}{a b:World}(h:dW n₀ (B::(B+1)::L) a b):dW 0 [B,B+1] a b:=⟨h.bel.mono (Nat.zero_le _),fun k hk=>h.keep k (by simp at hk ⊢;omega)⟩
theorem dW.rest{n₀:Nat}{B:Nat}{L:List Nat}{a b:World}(h:dW n₀ (B::(B+1)::L) a b):dW n₀ L a b:=⟨h.bel,fun k hk=>h.keep k (by simp[hk])⟩
theorem zC{P:Program}{α:Type}{g:Operand}{ps:Array Tmp}{assign body:Code}{Q:Exit->Act->World->Prop}{a:Act}{w:World}
  {gf:Nat} {lb:Array Value} (hg:a.eval g=.func (.func gf) #[] lb) (eg:∀args w,(callFunc gf args).run P w=.ok (.enter gf args) w)
  {vT:α->Array Value} {n₀:Nat} {L M:List Nat} {Nx:List α->α->World->Prop} {S Sp:List α->Prop} (hseq:Nz P gf lb vT (dW n₀ L) (ak M) Nx S Sp w)
  (hn:n₀<=w.heap.size) (hL:∀k∈L,k<w.heap.size) (hM:∀k∈M,k<w.heap.size)
  (qX:∀x,(vT x).size=ps.size)
  (I:List α->World->Prop) (Ix:Code->List α->World->Prop)
  (hI:∀s A A',I s A->ak (w.heap.size::(w.heap.size+1)::M) A A'->I s A') (PU:∀c s A A',Ix c s A->ak (w.heap.size::(w.heap.size+1)::M) A A'->Ix c s A')
  (h0:I [] w)
  (Ax:List α->α->Act->World->Prop) (Rs:∀pre x a' A A',Ax pre x a' A->w.heap.size+1<A.heap.size->ak [w.heap.size+1] A A'->Ax pre x a' A')
  (xU:∀(pre:List α)(x:α)(W:World)(K:Act->World->Prop),w.heap.size+1<W.heap.size->I pre W->Nx pre x W->(∀a' W',Below W.heap.size W W'->I pre W'->Ax pre x a' W'->K a' W')->
   assign.wpIn (Fence.wide.inRound (w.heap.size+1)) 0 P (Exit.then K (fun _ _ _=>False)) {tmps:=(ps.zip (vT x)).foldl (fun t (p,v)=>t.setIfInBounds p v) a.tmps,defers:=[]} W)
  (uf:∀(pre:List α)(x:α)(a':Act)(W:World),w.heap.size+1<W.heap.size->I pre W->Ax pre x a' W->body.wpIn (Fence.wide.inRound (w.heap.size+1)) 0 P (JO w.heap.size n₀ L I Ix (pre++[x]) W) a' W)
  (hdone:∀(xs:List α)(W:World),S xs->I xs W->w.heap.size<W.heap.size->W.heap[w.heap.size]?=some (.deferred (some []))->Q .normal {a with defers:={target:=.collected w.heap.size,args:=#[]}::a.defers} W)
  (JM:∀(c:Code)(pre:List α)(W:World),Sp pre->Ix c pre W->w.heap.size<W.heap.size->W.heap[w.heap.size]?=some (.deferred (some []))->c.wp P Q {a with defers:={target:=.collected w.heap.size,args:=#[]}::a.defers} W):
  (Code.rangeFunc g ps assign body).wp P Q a w:=by
 have hp:∀(A:World)(o:Obj),ak (w.heap.size::(w.heap.size+1)::M) A (A.putObj (w.heap.size+1) o):=fun A o=>ak.putObj A _ (by simp) o;refine Gy hg eg hseq (fun h k=>h.trans k) (fun W o hl=>?_) (fun A A' h hl=>?_) qX I Ix (fun s A A' h k=>hI s A A' h (k.sub (fun x hx=>by simp[hx]))) (fun c s A A' h k=>PU c s A A' h (k.sub (fun x hx=>by simp[hx])))
  (fun s A o h hl=>hI s A _ h (hp A o)) (fun c s A o h hl=>PU c s A _ h (hp A o)) (fun r=>hI [] w _ h0 ((ak.alloc _ _ _).trans (ak.alloc _ _ _))) Ax
  (fun pre x a' A o h hl=>Rs pre x a' A _ h hl (ak.putObj A _ (by simp) o)) (fun pre x W K hl hi hx hK=>?_) (fun pre x a' W hl hi ha=>?_) hdone JM
 ·exact dW.JL (M:=[w.heap.size+1]) (ak.putObj W _ (by simp) o) (by omega) (fun k hk=>by have:=hL k hk;omega) (fun x hx=>by simp at hx;omega) (fun k hk=>by have:=hL k hk;simp;omega)
 ·exact⟨h.size,h.block _ (by omega) (fun hm=>by have:=hM _ hm;omega),h.block _ hl (fun hm=>by have:=hM _ hm;omega)⟩
 ·exact xU pre x W K hl hi hx (fun a' W' hb hi' ha'=>hK a' W' (dW.aK hb (Nat.zero_le _) (fun k hk=>by simp at hk;omega)) (dW.aK hb (by omega) (fun k hk=>by have:=hL k hk;omega)) hi' ha')
 refine wpIn_mono (uf pre x a' W hl hi ha) ?_;intro e a3 W3 hp;cases e with
 | normal=>exact⟨hp.1.recs,hp.1.rest,hp.2⟩
 | ret=>exact⟨hp.1.recs,hp.2⟩
 | exit id=>exact⟨hp.1.recs,hp.2⟩
 | goto t=>exact⟨hp.1.recs,hp.2⟩
 | panic ch=>exact hp.elim
 | outgrown=>exact hp.elim
theorem Ru{P:Program}{f:FuncId}{args:Array Value}{w:World}{R R':Ending->World->Prop}(h:Calls P f args w R)(hr:∀e w',R e w'->R' e w'):
  Fence.wide.fn f/\Fence.wide.depth=none/\CallsIn Fence.wide 0 P f args w R':=⟨trivial,rfl,(callsIn_wide (n:=0)).2 (h.mono hr)⟩
theorem pX{P:Program}{fn:Func}{tmps:Array Value}{R:Ending->World->Prop}{D:Nat}{w:World}{v:Value}(hK:w.heap[D]?=some (.deferred (some [])))
  (hres:∀w',w'=w.putObj D (.deferred none)->(results fn tmps).run P w'=.ok v w'/\R (.returned v) w'):
  bodyPostM Fence.wide 0 P fn R .ret {tmps:=tmps,defers:=[{target:=.collected D,args:=#[]}]} w:=by
 obtain⟨h1,h2⟩:=hres _ rfl;exact⟨by simp,.inl ⟨_,_,rfl,run_takeDeferred hK,⟨_,h1,h2⟩⟩⟩
theorem rX{P:Program}{f:FuncId}{fn:Func}{c:Code}{args:Array Value}{w:World}{R:Ending->World->Prop}(hf:P.funcs[f]?=some fn)(hb:fn.body=some c)
  (h:c.wp P (bodyPostM Fence.wide 0 P fn R) {tmps:=args++Array.replicate (fn.ntmps-args.size) undef,defers:=[]} w):Calls P f args w R:=
 (callsIn_wide (n:=0)).1 (callsIn_of_wp_marks hf hb trivial (wpIn_wide.2 h) rfl)
/-! ### A region that draws its order,within a round -/
def NB:Nat->Nat->Nat
 | 0,_=>0
 | n+1,w=>w%2+NB n (w / 2)
theorem Gz(n:Nat):NB n 0=0:=by
 induction n with
 | zero=>rfl
 | succ n ih=>simp[NB,ih]
def xV:Nat->(Nat->Nat)->Nat
 | 0,_=>0
 | n+1,W=>xV n W+NB 64 (W n)
structure oB (W:Nat->Nat)(ids:List Nat):Prop where
 lt:∀i,W i<18446744073709551616
 has:∀n,n<65536->(W (n / 64)).testBit (n%64)=decide (n∈ids)
 xV:xV 1024 W=ids.length
theorem JP(m:Nat):xV m (fun _=>0)=0:=by
 induction m with
 | zero=>rfl
 | succ m ih=>simp[YtkghejaimhoboaaGreatDoor.xV,ih,Gz]
theorem oB.nil:oB (fun _=>0) []:=⟨fun _=>by decide,fun n _=>by simp,by simp[JP]⟩
def setCells(W:Nat->Nat):Array Value:=Array.ofFn fun i:Fin 1024=>.int .u64 (W i)
theorem vU:setCells (fun _=>0)=Array.replicate 1024 (.int .u64 0):=by
 apply Array.ext
 ·simp[setCells]
 intro i h1 h2;simp[setCells]
section
open Ieee
end
def IsRow(k:IntKind)(w:World)(a:Option Addr)(len cap:Nat)(zs:List Int):Prop:=
 (a=none/\len=0/\cap=0/\zs=[])\/
 ∃x,a=some x/\len<=cap/\cap<=maxLen/\zs.length=cap/\(∀i,i<zs.length->w.cell? (x.add i)=some (.int k (zs.getD i 0)))/\∀n∈zs,(Lit.int k n).wf=true
theorem IsRow.row{k:IntKind}{w:World}{a:Option Addr}{len cap:Nat}{zs:List Int}(h:IsRow k w a len cap zs):ax w a len cap (ns k (zs.take len))/\∀n∈zs.take len,(Lit.int k n).wf=true:=by
 rcases h with⟨rfl,rfl,rfl,rfl⟩ | ⟨x,rfl,hl,hm,hz,hc,hwf⟩
 ·exact⟨ax.empty w,by simp⟩
 refine⟨⟨by simp[ns];omega,hl,hm,(fun e=>by cases e),fun i hi=>?_⟩,fun n hn=>hwf n (List.mem_of_mem_take hn)⟩;have h0:=hc i (by omega);obtain⟨b,off,spot⟩:=x;have hspot:spot=none:=by have h1:=hc 0 (by omega);simpa[Addr.add]using World.cell?_spot h1
 subst hspot;refine⟨b,off,rfl,?_⟩;have e1:(ns k (zs.take len))[i]?=some (.int k (zs.getD i 0)):=by rw[JJ k _ i (by simp;omega),List.getElem?_take_of_lt hi];rfl
 rw[e1,<-h0];by_cases h0:i=0
 ·subst h0;simp[Addr.add]
 simp[Addr.add,h0]
theorem IsRow.bytes{w:World}{a:Option Addr}{len cap:Nat}{zs:List Int}(h:IsRow .u8 w a len cap zs):∃l:List UInt8,ax w a len cap (bs l):=by
 obtain⟨h1,h2⟩:=h.row;refine⟨(zs.take len).map fun z=>UInt8.ofNat z.toNat,?_⟩;have e:bs ((zs.take len).map fun z=>UInt8.ofNat z.toNat)=ns .u8 (zs.take len):=by simp only[bs,ns,List.map_map];refine List.map_congr_left fun z hz=>?_;have hw:=h2 z hz;simp only[Lit.wf,Bool.and_eq_true,decide_eq_true_eq]at hw;have agj:IntKind.u8.min=0:=rfl;have mM:IntKind.u8.max=255:=rfl;simp only[Function.comp];congr 1;rw[UInt8.toNat_ofNat'];omega
 rw[e];exact h1
def bR(n:Int):Nat:=if kY n=false then 0 else if n<128 then 1 else if n<16384 then 2 else if n<2097152 then 3 else 4
theorem jJ(n:Int):kY n=true↔0<=n/\n<=268435455:=by simp[kY]
theorem rr(g:Nat)(lb:Array Value)(p:Int->Bool)(a:Option Addr)(n cap:Nat)(l:List Int)(w:World)(h:ax w a n cap (ns .i64 l))
 (eg:∀args w,(callFunc g args).run prog w=.ok (.enter g args) w) (hg:∀(x:Int),Calls prog g (#[.int .i64 x]++lb) w fun e w'=>e=.returned (.bool (p x))/\w=w'):
  Calls prog 215 #[.slice a n cap,.func (.func g) #[] lb] w fun e w'=>e=.returned (.bool (decide (0<=idxOf p l)))/\w=w':=by
 have HG:=af (oz g lb p a n cap l w h eg hg);clear hg eg;go_enter func215,ntmps215;go_wp2_with fail
 refine HG.mono ?_;rintro e w' ⟨rfl,rfl⟩;go_wp2;go_ret;exact⟨rfl,rfl⟩
theorem zE(n:Int)(w:World):
  Calls prog 165 #[.int .i64 n] w fun e w'=>e=.returned (.int .i64 (bR n))/\Below w.heap.size w w':=by
 cases hm:kY n
 ·go_enter func165,ntmps165;go_wp2_with (go_at_call 217;refine(xT _ _).mono ?_;rintro e w' ⟨rfl,rfl⟩)
  go_ret;exact⟨by simp[bR,hm],ai.alloc ah _⟩
 go_enter func165,ntmps165;go_wp2_with (go_at_call 217;refine(xT _ _).mono ?_;rintro e w' ⟨rfl,rfl⟩)
 refine(Cl _).mono ?_;rintro e w1 ⟨rfl,hb⟩;have hc1:w1.cell? ⟨w.heap.size,0,none⟩=some (.int .i64 n):=by rw[hb.cell (p:=⟨w.heap.size,0,none⟩) (by simp)];go_simp
 have hz:=hb.size;simp at hz;go_wp2_with fail
 have hrow:ax (w1.alloc (Obj.cells #[.int .i64 0,.int .i64 128,.int .i64 16384,.int .i64 2097152,.int .i64 268435456] 250)) (some ⟨w1.heap.size,0,none⟩) 5 5 (ns .i64 [0,128,16384,2097152,268435456]):=
  ax.new w1 _ _ _ (by simp[maxLen])
 have hc2:=eI hc1 (Obj.cells #[.int .i64 0,.int .i64 128,.int .i64 16384,.int .i64 2097152,.int .i64 268435456] 250);refine(oz 221 #[.pointer (some ⟨w.heap.size,0,none⟩)] (fun x=>decide (n<x)) _ 5 5 _ _ hrow (enters_of func221 (by kernel_rfl) rfl) (fun x=>Gw n x _ _ hc2)).mono ?_;rintro e w' ⟨rfl,rfl⟩;go_wp2;go_ret;refine⟨?_,?_⟩
 ·have PV:=(jJ n).1 hm;congr 2;simp only[bR,hm,idxOf];have h0:¬n<0:=by omega
  have h5:n<268435456:=by omega
  by_cases h1:n<128<;>by_cases h2:n<16384<;>by_cases h3:n<2097152<;>simp[h0,h1,h2,h3,h5]<;>omega
 exact(((Below.refl _ w).alloc ah _).trans (hb.mono (by simp))).alloc (by omega) _
theorem Cm(n b:Nat)(w:World)(hn:n<268435456)(hc:w.cell? ⟨b,0,none⟩=some (.int .i64 n))(hf:w.frozen? ⟨b,0,none⟩=false):
  Calls prog 244 #[.pointer (some ⟨b,0,none⟩)] w fun e w'=>e=.returned (.int .u8 (if n<128 then n else n%128+128:Nat))/\w.setCell ⟨b,0,none⟩ (.int .i64 (n / 128:Nat))=w':=by
 have e1:bits .and .i64 (n:Int) 127=n%128:=i64_and127 _;have e2:bits .or .u8 ((n:Int)%128) 128=n%128+128:=u8_or128_right _ (by omega) (by omega);by_cases h:n<128
 ·have e3:(n:Int)%128=n:=by omega
  have e4:(n:Int) / 128=0:=by omega
  go_enter func244,ntmps244;go_wp2;go_ret;exact⟨by simp[h],by simp[e4]⟩
 have e3:(n:Int)%128%256=n%128:=by omega
 have e4:0<(n:Int) / 128:=by omega
 go_enter func244,ntmps244;go_wp2;go_ret;exact⟨by simp[h],rfl⟩
theorem GD(n:Int)(w:World):
  Calls prog 218 #[.int .i64 n] w fun e w'=>e=.returned (.func (.func 244) #[] #[.pointer (some ⟨w.heap.size,0,none⟩)])/\w.alloc (.cells #[.int .i64 n] 2)=w':=by
 go_enter func218,ntmps218;go_wp2;go_ret;exact⟨rfl,rfl⟩
def eP:Nat->Nat->List UInt8
 | 0,_=>[]
 | s+1,n=>(if n<128 then UInt8.ofNat n else UInt8.ofNat (n%128+128))::eP s (n / 128)
def iu(n:Nat):UInt8:=if n<128 then UInt8.ofNat n else UInt8.ofNat (n%128+128)
theorem eu(s n:Nat):(eP s n).length=s:=by
 induction s generalizing n with
 | zero=>rfl
 | succ s ih=>simp[eP,ih]
theorem ru(s n:Nat):eP (s+1) n=eP s n++[iu (n / 128^s)]:=by
 induction s generalizing n with
 | zero=>simp[eP,iu]
 |succ s ih=>rw[eP,ih (n / 128)];simp only[eP,List.cons_append,Nat.div_div_eq_div_mul,Nat.pow_succ',Nat.mul_comm]
def oU(l:List Int):List UInt8:=l.flatMap fun n=>eP (bR n) n.toNat
theorem GF(l:List Int)(k:Nat)(h:k<l.length):oU (l.take (k+1))=oU (l.take k)++eP (bR l[k]) l[k].toNat:=by rw[List.take_succ_eq_append_getElem h];simp only[oU,List.flatMap_append,List.flatMap_cons,List.flatMap_nil,List.append_nil]
theorem pY(n:Int):bR n<=4:=by unfold bR;repeat (split<;>try omega)
theorem NC(l:List Int):(oU l).length<=4*l.length:=by
 induction l with
 | nil=>simp[oU]
 |cons n l ih=>
  have h:oU (n::l)=eP (bR n) n.toNat++oU l:=by simp[oU]
  rw[h,List.length_append,eu,List.length_cons];have:=pY n;omega
theorem Tryz.rY:fL prog 22 5 (.int .u8 0) 1 1:=⟨underlying22,by kernel_rfl,rfl⟩
theorem Tryz.zF:(prog.info? 5).map (fun i=>(i.zero,i.size,i.bytes))=some (some (.int .u8 0),1,1):=by kernel_rfl
theorem tB(l:List UInt8)(x:UInt8):bs (l++[x])=bs l++[.int .u8 x.toNat]:=by simp[bs]
theorem kZ(n:Nat):((if n<128 then n else n%128+128:Nat):Int)=((iu n).toNat:Int):=by unfold iu;split<;>simp<;>omega
def VC(l:List Int)(w:World)(e:Ending)(w':World):Prop:=
 ∃v,e=.returned (.tuple #[v,.int .i64 0])/\w'.ownsRow w.heap.size 5 1 v (oU l).length (bs (oU l))/\Below w.heap.size w w'
theorem ND(a:Option Addr)(n cap:Nat)(l:List Int)(w:World)(h:ax w a n cap (ns .i64 l))(hn:n<=1000000)(hl:∀x∈l,kY x=true):
  Calls prog 159 #[.slice a n cap] w (VC l w):=by
 have hlen:l.length=n:=by have:=h.len;rwa [Ck]at this
 have HL:=af hlen;clear hlen;have HC:=af (rr 216 #[] (fun x=> !kY x) a n cap l w h (enters_of func216 (by kernel_rfl) rfl) (fun x=>JK x w));rw[jG (fun x=> !kY x) l (fun x hx=>by simp[hl x hx])]at HC;obtain⟨i0,hi,hz0,hz1,hz2⟩:=info_parts Tryz.zF;go_enter func159,ntmps159;go_wp2_with fail
 apply fI 0 rfl;go_wp2_with fail
 refine HC.mono ?_;rintro e w' ⟨rfl,rfl⟩;go_wp2_with fail
 go_loopw [2,11] (fun v i wr=>∃k:Nat,k<=n/\i=.int .i64 k/\wr.ownsRow w.heap.size 5 1 v (oU (l.take k)).length (bs (oU (l.take k)))/\Below w.heap.size w wr) (fun _ i _=>n-(intOf i).toNat)
 case atStart=>exact⟨0,Nat.zero_le _,rfl,World.ownsRow_nil _ _ _ _,Below.refl _ _⟩
 case round=>
  obtain⟨k,hk,rfl,hown,bK⟩:=hrel;by_cases hlt:k<n
  ·obtain⟨b,off,ha,hcell⟩:=(h.ag bK).num hlt;subst ha;have hx:kY (l[k]?.getD 0)=true:=by have:=HL.out;rw[List.getElem?_eq_getElem (by omega)];exact hl _ (List.getElem_mem _)
   obtain⟨x,hX⟩:∃x,x=l[k]?.getD 0:=⟨_,rfl⟩;rw[<-hX]at hcell hx;obtain⟨h0,h5⟩:=(jJ x).1 hx;obtain⟨m,rfl⟩:=Int.eq_ofNat_of_zero_le h0;have HX:=af hX;clear hX hx h0;have agk:=pY m;go_wp2_with fail
   refine(GD _ _).mono ?_;rintro e w1 ⟨rfl,rfl⟩;go_wp2_with fail
   refine(zE _ _).mono ?_;rintro e w2 ⟨rfl,hb2⟩;generalize hS:bR m=s at*
   have HS:=af hS;clear hS;have pZ:Boxed w2 wr.heap.size 2 (.int .i64 m):=aF (Boxed.new _ _ _) (hb2.mono (by simp));have hown2:=aB (hown.alloc (.cells #[.int .i64 m] 2)) hb2;have fO:Below w.heap.size w w2:=(bK.alloc bK.size _).trans (hb2.mono (by have:=bK.size;simp;omega));have aaz:w.heap.size<=wr.heap.size:=bK.size;have hpl:=NC (l.take k);have xX:(l.take k).length<=k:=List.length_take_le _ _;generalize hP:oU (l.take k)=pre at*
   have HP:=af hP;clear hP;generalize hB:wr.heap.size=B at*
   clear hB bK hown hb2 hcell h;go_wp2_with fail;go_loopw [2,19] (fun v i wq=>∃j:Nat,j<=s/\i=.int .i64 j/\Boxed wq B 2 (.int .i64 (m / 128^j:Nat))/\wq.ownsRow w.heap.size 5 1 v (pre++eP j m).length (bs (pre++eP j m))/\Below w.heap.size w wq) (fun _ i _=>s-(intOf i).toNat)
   case atStart=>exact⟨0,Nat.zero_le _,rfl,by simpa using pZ,by simpa[eP]using hown2,fO⟩
   case round=>
    obtain⟨j,hj,rfl,kI,how,hbl⟩:=hrel;clear pZ hown2 fO;by_cases hjs:j<s
    ·obtain⟨q,hQ⟩:∃q,q=m / 128^j:=⟨_,rfl⟩;have hqm:q<=m:=by rw[hQ];exact Nat.div_le_self _ _
     rw[<-hQ]at kI;have HQ:=af hQ;clear hQ;have uj:=eu j m;have hBw:=hbl.size;obtain⟨y,hy⟩:∃y:UInt8,y=iu q:=⟨_,rfl⟩;have HY:=af hy;clear hy;have hY:((if q<128 then q else q%128+128:Nat):Int)=(y.toNat:Int):=by rw[HY.out];exact kZ q
     have HC1:=Cm q B wr (by omega) kI.cell kI.frozen;rw[hY]at HC1;have VD:=af HC1;clear HC1 hY;generalize hZ:pre++eP j m=z at*
     have hzl:z.length<=4*1000000+4:=by rw[<-hZ,List.length_append,uj];omega
     have HZ:=af hZ;clear hZ uj;have NF:=ownsRow_setCell_other how (a:=⟨B,0,none⟩) (fun e=>kI.not_row (by decide) how e.symm) (.int .i64 (q / 128:Nat));have sT:=kI.set (.int .i64 (q / 128:Nat));have Rv:=hbl.setCell (p:=⟨B,0,none⟩) (by simpa using aaz) (.int .i64 (q / 128:Nat));go_wp2_with fail
     refine VD.mono ?_;rintro e w3 ⟨rfl,hw3⟩;rw[hw3]at NF sT Rv;clear hw3 VD;have hs3:=Rv.size;go_wp2_with (at_builtin;refine dt rfl _ _ rfl Tryz.rY w.heap.size _ _ _ rfl NF (.int .u8 y.toNat) rfl rfl (by omega) (by omega) (by omega) ?_;intro v' w4 dI hg4)
     go_roundw
     case rel=>
      refine⟨j+1,by omega,by go_num,?_,?_,?_⟩
      ·have h1:=sT.kept hg4 (sT.not_row (by decide) NF);rw[HQ.out,Nat.div_div_eq_div_mul,<-Nat.pow_succ]at h1;exact h1
      ·have h1:=ru j m;rw[h1,<-HQ.out,<-HY.out,<-List.append_assoc,HZ.out,tB,List.length_append];exact dI
      exact Rv.grown hg4 (by omega) (fun k hk=>(NF.lt k hk).1)
     case measure=>simp[intOf];omega
    obtain rfl:j=s:=by omega
    clear hjs;go_wp2;go_roundw
    case rel=>refine⟨k+1,by omega,by go_num,?_,hbl⟩;have hl2:=HL.out;rw[GF l k (by omega),HP.out];have h1:=HX.out;rw[List.getElem?_eq_getElem (by omega),Option.getD_some]at h1;rw[<-h1,HS.out,Int.toNat_natCast];exact how
    case measure=>simp[intOf];omega
  obtain rfl:k=n:=by omega
  clear hlt;go_wp2;rw[rV]
  go_ret2
  have hl2:=HL.out;rw[List.take_of_length_le (by omega)]at hown;exact⟨_,rfl,hown,bK⟩
section
open Go.RowKit
end
end Go.Proofs.YtkghejaimhoboaaGreatDoor
