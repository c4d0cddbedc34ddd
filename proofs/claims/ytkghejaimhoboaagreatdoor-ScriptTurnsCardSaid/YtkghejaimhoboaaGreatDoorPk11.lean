/- Parts of the proof of ScriptTurns. -/
import Derived.Test.YtkghejaimhoboaaGreatDoorPk09
import Derived.Deep.Cut
import Derived.ProofKit
import Derived.OpenShut
import Derived.Deep.Slices
set_option linter.unusedSimpArgs false
set_option linter.unusedVariables false
set_option maxRecDepth 100000
set_option maxHeartbeats 8000000
namespace Go.Proofs.YtkghejaimhoboaaGreatDoor
open Go.RowKit Go.Shelf Go.Proofs.Tryz
theorem gu{w w':World}{g o:Nat}{cs:List Value}(h:w.rangeAt g o cs)(hg:g<w.heap.size)(hb:Below w.heap.size w w'):w'.rangeAt g o cs:=fun j v hj=>by have:=h j v hj;rw[<-this];exact hb.cell (p:=⟨g,o+j,none⟩) hg
section
open Go.RowKit Go.Shelf Go.Deep
variable {H:Type} {enc:TypeId×Value->H}
end
section
open Go.RowKit Go.Shelf Go.Deep
structure aW {α:Type}(f:α->List Value)(size:Nat)(w:World)(a:Option Addr)(n cap:Nat)(xs:List α):Prop where
 len:xs.length=n
 le:n<=cap
 max:cap<=maxLen
 eM:∀i x,xs[i]?=some x->∃g off,a=some ⟨g,off,none⟩/\g<w.heap.size/\w.rangeAt g (off+i*size) (f x)
section
variable {α:Type} {f:α->List Value} {size:Nat} {w w':World} {a:Option Addr} {n cap:Nat} {xs:List α}
theorem aW.ag(h:aW f size w a n cap xs)(hb:Below w.heap.size w w'):aW f size w' a n cap xs:=
 ⟨h.len,h.le,h.max,fun i x hx=>by obtain⟨g,off,h1,h2,h3⟩:=h.eM i x hx;exact⟨g,off,h1,Nat.lt_of_lt_of_le h2 hb.size,gu h3 h2 hb⟩⟩
theorem aW.range(h:aW f size w a n cap xs){i:Nat}{x:α}(hx:xs[i]?=some x):∃g off,a=some ⟨g,off,none⟩/\∀W,Below w.heap.size w W->W.rangeAt g (off+i*size) (f x):=by obtain⟨g,off,ha,hg,hr⟩:=h.eM i x hx;exact⟨g,off,ha,fun W hb=>gu hr hg hb⟩
theorem aW.nil(w:World):aW f size w none 0 0 []:=⟨rfl,Nat.le_refl _,Nat.zero_le _,fun i x hx=>by simp at hx⟩
theorem cX(hf:∀x,(f x).length=size){base c:Nat}{e:TypeId}(h:w.ownsRow base e size (.slice a n c) n (xs.flatMap f))(hl:xs.length=n):aW f size w a n c xs:=by
 have hat:=fun i x (hx:xs[i]?=some x)=>jB f hf hl h (k:=i) (x:=x) hx;have hlt:=fun k=>h.lt k;obtain⟨h1,⟨he,h2⟩ | ⟨g,cap,cur,he,_,hg,N6,hcm,_⟩⟩:=h
 ·cases he;have:xs=[]:=List.eq_nil_of_length_eq_zero (by omega);subst this;exact⟨rfl,by omega,by simp[maxLen],fun i x hx=>by simp at hx⟩
 cases he;refine⟨hl,N6,hcm,fun i x hx=>?_⟩;obtain⟨g',ha,_,hr⟩:=hat i x hx;cases ha;refine⟨g,0,rfl,(hlt g rfl).2,?_⟩;rw[Nat.zero_add];exact hr
end
variable {H:Type} {enc:TypeId×Value->H}
end
section
section
variable {P:Program} {w:World} {t e:TypeId} {z:Value} {size bytes:Nat}
end
end
structure bM where
 filter:List UInt8
 qos:Int
def bM.cl(x:bM):List Value:=[.string ⟨x.filter.toArray⟩,.int .i64 x.qos]
def jD(z:Int):List Value:=[.int .i64 z]
def uV(s:List UInt8):List Value:=[.string ⟨s.toArray⟩]
structure Pk where
 kind:Int
 dup:Bool
 retain:Bool
 qos:Int
 topic:List UInt8
 body:List UInt8
 id:Int
 client:List UInt8
 clean:Bool
 keep:Int
 hasWill:Bool
 will:gp
 hasUser:Bool
 hasPass:Bool
 user:List UInt8
 pass:List UInt8
 present:Bool
 code:Int
 wants:List bM
 codes:List Int
 filters:List (List UInt8)
structure Hd where
 a:Option Addr
 n:Nat
 c:Nat
structure H3 where
 w:Hd
 c:Hd
 f:Hd
def Pk.cells(p:Pk)(h:H3):List Value:=[.int .i64 p.kind,.bool p.dup,.bool p.retain,.int .i64 p.qos,.string ⟨p.topic.toArray⟩,.string ⟨p.body.toArray⟩,.int .i64 p.id,.string ⟨p.client.toArray⟩,.bool p.clean,.int .i64 p.keep,.bool p.hasWill,
 .string ⟨p.will.topic.toArray⟩,.string ⟨p.will.body.toArray⟩,.int .i64 p.will.qos,.bool p.will.retain,.bool p.hasUser,.bool p.hasPass,.string ⟨p.user.toArray⟩,.string ⟨p.pass.toArray⟩,.bool p.present,.int .i64 p.code,
 .slice h.w.a h.w.n h.w.c,.slice h.c.a h.c.n h.c.c,.slice h.f.a h.f.n h.f.c]
structure Pk.In (w:World)(p:Pk)(h:H3):Prop where
 lw:aW bM.cl 2 w h.w.a h.w.n h.w.c p.wants
 lc:aW jD 1 w h.c.a h.c.n h.c.c p.codes
 lf:aW uV 1 w h.f.a h.f.n h.f.c p.filters
theorem Pk.In.ag{w w':World}{p:Pk}{h:H3}(k:p.In w h)(hb:Below w.heap.size w w'):p.In w' h:=⟨k.lw.ag hb,k.lc.ag hb,k.lf.ag hb⟩
structure Tn where
 kind:Int
 conn:Int
 pk:Pk
 bytes:List UInt8
 arm:Int
 n:Int
 bf:List Int
structure dE where
 t:Tn
 h:H3
 hp:Hd
def Tn.cells(t:Tn)(h:H3)(hp:Hd):List Value:=[.int .i64 t.kind,.int .i64 t.conn,.int .i64 t.pk.kind,.bool t.pk.dup,.bool t.pk.retain,.int .i64 t.pk.qos,.string ⟨t.pk.topic.toArray⟩,.string ⟨t.pk.body.toArray⟩,.int .i64 t.pk.id,.string ⟨t.pk.client.toArray⟩,.bool t.pk.clean,.int .i64 t.pk.keep,.bool t.pk.hasWill,
 .string ⟨t.pk.will.topic.toArray⟩,.string ⟨t.pk.will.body.toArray⟩,.int .i64 t.pk.will.qos,.bool t.pk.will.retain,.bool t.pk.hasUser,.bool t.pk.hasPass,.string ⟨t.pk.user.toArray⟩,.string ⟨t.pk.pass.toArray⟩,.bool t.pk.present,.int .i64 t.pk.code,
 .slice h.w.a h.w.n h.w.c,.slice h.c.a h.c.n h.c.c,.slice h.f.a h.f.n h.f.c,.string ⟨t.bytes.toArray⟩,.int .i64 t.arm,.int .i64 t.n,.slice hp.a hp.n hp.c]
def dE.cells(x:dE):List Value:=x.t.cells x.h x.hp
theorem Tn.Ae(t:Tn)(h:H3)(hp:Hd):t.cells h hp=[.int .i64 t.kind,.int .i64 t.conn]++t.pk.cells h++[.string ⟨t.bytes.toArray⟩,.int .i64 t.arm,.int .i64 t.n,.slice hp.a hp.n hp.c]:=rfl
structure Tn.In (w:World)(t:Tn)(h:H3)(hp:Hd):Prop where
 pk:t.pk.In w h
 p:aW jD 1 w hp.a hp.n hp.c t.bf
theorem Tn.In.ag{w w':World}{t:Tn}{h:H3}{hp:Hd}(k:t.In w h hp)(hb:Below w.heap.size w w'):t.In w' h hp:=⟨k.pk.ag hb,k.p.ag hb⟩
structure nS where
 bB:Int
 room:Int
 inbox:Int
 subs:Int
 cP:Int
 cQ:Int
 eY:List UInt8
def nS.cl(c:nS):List Value:=[.int .i64 c.bB,.int .i64 c.room,.int .i64 c.inbox,.int .i64 c.subs,.int .i64 c.cP,.int .i64 c.cQ,.string ⟨c.eY.toArray⟩]
structure Sc where
 cf:nS
 bI:Int
 ts:List Tn
structure lj where
 cf:nS
 bI:Int
 ht:Hd
 ts:List dE
def lj.sc(s:lj):Sc:=⟨s.cf,s.bI,s.ts.map dE.t⟩
def lj.cells(s:lj):List Value:=[.int .i64 s.cf.bB,.int .i64 s.cf.room,.int .i64 s.cf.inbox,.int .i64 s.cf.subs,.int .i64 s.cf.cP,.int .i64 s.cf.cQ,.string ⟨s.cf.eY.toArray⟩,.int .i64 s.bI,.slice s.ht.a s.ht.n s.ht.c]
structure lj.In (w:World)(s:lj):Prop where
 t:aW dE.cells 30 w s.ht.a s.ht.n s.ht.c s.ts
 each:∀x∈s.ts,x.t.In w x.h x.hp
theorem lj.In.ag{w w':World}{p:lj}(h:p.In w)(hb:Below w.heap.size w w'):p.In w':=⟨h.t.ag hb,fun t ht=>(h.each t ht).ag hb⟩
section
section
variable {W R:Int} {c:List UInt8} {R0:List aP} {q0 i0:Int} {x:SS}
end
section
variable {W R:Int} {c:List UInt8} {R0:List aP} {s:OS}
end
end
theorem Fj{α:Type}{P:List α->Prop}(h0:P [])(hs:∀l a,P l->P (l++[a]))(l:List α):P l:=by
 have h:∀m:List α,P m.reverse:=fun m=>by
  induction m with
  | nil=>exact h0
  | cons a m ih=>rw[List.reverse_cons];exact hs _ _ ih
 rw[<-List.reverse_reverse l];exact h _
def jO(l:List UInt8):Nat:=l.foldl (fun n b=>n*256+b.toNat) 0
def ay(k:Nat)(n:Nat):List UInt8:=match k with
 | 0=>[]
 | k+1=>ay k (n / 256)++[UInt8.ofNat (n%256)]
def aI(s:List UInt8):List UInt8:=ay 2 s.length++s
def aX(k:Nat)(l:List UInt8):Option (Nat×List UInt8):=if l.length<k then none else some (jO (l.take k),l.drop k)
def bC(l:List UInt8):Option (List UInt8×List UInt8):=(aX 2 l).bind fun x=>if x.2.length<x.1 then none else some (x.2.take x.1,x.2.drop x.1)
theorem mZ(l:List UInt8)(b:UInt8):jO (l++[b])=jO l*256+b.toNat:=by simp[jO]
theorem aO(k n:Nat):(ay k n).length=k:=by
 induction k generalizing n with
 | zero=>rfl
 | succ k ih=>simp[ay,ih]
theorem gv(n:Nat)(h:n<256):(UInt8.ofNat n).toNat=n:=by simp[UInt8.toNat_ofNat'];omega
theorem KI(k n:Nat)(h:n<256^k):jO (ay k n)=n:=by
 induction k generalizing n with
 | zero=>simp at h;subst h;rfl
 |succ k ih=>rw[ay,mZ,ih (n / 256) (by rw[Nat.pow_succ]at h;omega),gv _ (Nat.mod_lt _ (by decide))];omega
theorem lY(l:List UInt8):jO l<256^l.length:=by refine Fj (P:=fun l=>jO l<256^l.length) (by simp[jO]) (fun l b ih=>?_) l;rw[mZ,List.length_append,List.length_singleton,Nat.pow_succ];have:=b.toNat_lt;omega
theorem KJ(l:List UInt8):ay l.length (jO l)=l:=by refine Fj (P:=fun l=>ay l.length (jO l)=l) rfl (fun l b ih=>?_) l;have hb:=b.toNat_lt;rw[mZ,List.length_append,List.length_singleton,ay,show(jO l*256+b.toNat) / 256=jO l by omega,ih,show(jO l*256+b.toNat)%256=b.toNat by omega];simp
theorem cD(k n:Nat)(h:n<256^k)(r:List UInt8):aX k (ay k n++r)=some (n,r):=by have hl:=aO k n;unfold aX;rw[if_neg (by rw[List.length_append];omega),List.take_left' hl,List.drop_left' hl,KI k n h]
theorem bN{k:Nat}{l:List UInt8}{n:Nat}{r:List UInt8}(h:aX k l=some (n,r)):l=ay k n++r/\n<256^k:=by
 unfold aX at h;split at h
 ·cases h
 rename_i hl;simp only[Option.some.injEq,Prod.mk.injEq]at h;obtain⟨rfl,rfl⟩:=h;have ht:(l.take k).length=k:=by rw[List.length_take];omega
 have h1:=KJ (l.take k);have h2:=lY (l.take k);rw[ht]at h1 h2;exact⟨by rw[h1,List.take_append_drop],h2⟩
theorem dJ(s:List UInt8)(h:s.length<65536)(r:List UInt8):bC (aI s++r)=some (s,r):=by unfold bC aI;rw[List.append_assoc,cD 2 s.length (by simpa using h),Option.bind_some];dsimp only;rw[if_neg (by rw[List.length_append];omega),List.take_left' rfl,List.drop_left' rfl]
theorem cg{l s r:List UInt8}(h:bC l=some (s,r)):l=aI s++r/\s.length<65536:=by
 unfold bC at h;cases hn:aX 2 l with
 | none=>rw[hn]at h;cases h
 | some x=>
  obtain⟨n,t⟩:=x;rw[hn,Option.bind_some]at h;dsimp only at h;split at h
  ·cases h
  rename_i hl;simp only[Option.some.injEq,Prod.mk.injEq]at h;obtain⟨rfl,rfl⟩:=h;obtain⟨h1,h2⟩:=bN hn;have ht:(t.take n).length=n:=by rw[List.length_take];omega
  refine⟨?_,by rw[ht];simpa using h2⟩;rw[h1];unfold aI;rw[ht,List.append_assoc,List.take_append_drop]
end Go.Proofs.YtkghejaimhoboaaGreatDoor
