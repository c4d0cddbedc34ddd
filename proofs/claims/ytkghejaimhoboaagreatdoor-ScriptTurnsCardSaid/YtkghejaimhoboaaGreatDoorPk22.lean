/- Parts of the proof of ScriptTurns. -/
import Derived.Test.YtkghejaimhoboaaGreatDoorPk20
import Derived.Deep.CutRange
set_option linter.unusedSimpArgs false
set_option linter.unusedVariables false
set_option maxRecDepth 100000
set_option maxHeartbeats 8000000
namespace Go.Proofs.YtkghejaimhoboaaGreatDoor
open Go.RowKit Go.Shelf Go.Proofs.Tryz
section
attribute [local go_sem] Oper.semAt_some
def kR:lj:=⟨⟨0,0,0,0,0,0,[]⟩,0,bQ,[]⟩
structure Tt (C:bT)(l:List UInt8)(w:World)(b B:Nat)(o:Option Int)(W:World):Prop where
 err:Boxed W B 31 (.int .i64 0)
 ag:Below w.heap.size w W
 out:(65536<l.length/\o=some 3/\ar W b kR.cells.toArray 30)\/(l.length<=65536/\(∀s,bh C false l=some s->¬bZ s)/\o=some 390/\ar W b kR.cells.toArray 30)\/
  (l.length<=65536/\∃s:lj,bh C false l=some s.sc/\bZ s.sc/\o=none/\ar W b s.cells.toArray 30/\∀W',ak [b,B] W W'->s.In W')
structure QK (w0:World)(b B:Nat)(W:World):Prop where
 ag:Below w0.heap.size w0 W
 out:ar W b kR.cells.toArray 30
 err:Boxed W B 31 (.int .i64 0)
theorem QK.wrote{w0 W W':World}{b B:Nat}{M:List Nat}(h:QK w0 b B W)(hw:ak M W W')(hM:∀y∈M,w0.heap.size<=y)(h1:b∉M)(h2:B∉M):QK w0 b B W':=⟨h.ag.trans (hw.ag h.ag.size hM),h.out.aw hw h1,hw.boxed h2 h.err⟩
theorem QK.bad{C:bT}{l:List UInt8}{w0 W:World}{b B:Nat}(h:QK w0 b B W)(hl:l.length<=65536)(hn:∀s,bh C false l=some s->¬bZ s):Tt C l w0 b B (some 390) W:=⟨h.err,h.ag,.inr (.inl ⟨hl,hn,rfl,h.out⟩)⟩
def zu(c:nS)(bI:Int)(v:Value):Array Value:=#[.int .i64 c.bB,.int .i64 c.room,.int .i64 c.inbox,.int .i64 c.subs,.int .i64 c.cP,.int .i64 c.cQ,.string ⟨c.eY.toArray⟩,.int .i64 bI,v]
theorem yQ{C:bT}{l l1 l0 sec:List UInt8}{z0 z1 z2 z3 z4 z5 z6:Int}(h:bJ jR 7 l=some ([z0,z1,z2,z3,z4,z5,z6],l1))(ht:bC l1=some (sec,l0)):
  bh C false l=(cx (cw C false) l0.length l0).bind fun ts=>some ⟨⟨z0,z1,z2,z3,z4,z5,sec⟩,z6,ts⟩:=by
 unfold bh;rw[h,Option.bind_some];dsimp only;rw[ht,Option.bind_some]
theorem Lv{l r s:List UInt8}(h:bC l=some (s,r)):r.length+2<=l.length:=by rw[(cg h).1,List.length_append];unfold aI;rw[List.length_append,aO];omega
theorem nZ{M:List Nat}{w w':World}(hw:ak M w w'){g k:Nat}(hg:g<w.heap.size)(hM:g∉M):w'.cell? ⟨g,k,none⟩=w.cell? ⟨g,k,none⟩:=by unfold World.cell?;rw[hw.block g hg hM]
def iY:Option Value->Nat
 | some (.slice _ n _)=>n
 | _=>0
theorem Rd.iY{W:World}{B p:Nat}{l:List UInt8}(h:Rd W B p l):iY (W.cell? ⟨p,0,none⟩)=l.length:=by obtain⟨a,n,c,hb,hr, -⟩:=h.out;rw[hb.cell];have:=hr.len;rw[cV]at this;exact this.symm
structure O3 (C:bT)(l0:List UInt8)(w0:World)(b B q p ob:Nat)(cf:nS)(bI:Int)(ts:List dE)(l':List UInt8)(v:Value)(W:World):Prop where
 read:bJ (cw C false) ts.length l0=some (ts.map dE.t,l')
 rd:Rd W q p l'
 JD:ar W q #[.pointer (some ⟨p,0,none⟩)] 61
 out:ar W ob (zu cf bI v) 30
 row:W.ownsRow q 55 30 v ts.length (ts.flatMap dE.cells)
 each:∀x∈ts,vx W x (b::B::p::ob::blk v)
 keep:Below w0.heap.size w0 W
 len:3*ts.length+l'.length<=l0.length
 new:q<=ob/\w0.heap.size<=p/\w0.heap.size<=q
theorem D4{w:World}{a b:Nat}{cs ds:Array Value}{S T:TypeId}(h:ar w a cs S)(k:ar w b ds T)(ht:S≠T):a≠b:=by rintro rfl;have e:w.heap[a]?=_:=h;rw[show w.heap[a]?=_ from k]at e;cases e;exact ht rfl
def zT:Array Value:=((dS 0 0).cells bo bQ).toArray
theorem FO:fL prog 28 55 (.agg zT) 30 352:=⟨underlying28,by kernel_rfl,by kernel_rfl⟩
theorem O3.kept{C:bT}{l0 l':List UInt8}{w wr W:World}{b B q p ob tb:Nat}{cf:nS}{bI:Int}{ts:List dE}{v:Value}(h:O3 C l0 w b B q p ob cf bI ts l' v wr)(hw:ak [p,tb] wr W)(ht:wr.heap.size<=tb):
  ar W ob (zu cf bI v) 30/\ar W q #[.pointer (some ⟨p,0,none⟩)] 61/\W.ownsRow q 55 30 v ts.length (ts.flatMap dE.cells)/\(∀x∈ts,vx W x (b::B::p::ob::blk v))/\(ob≠p/\q≠p/\q≠ob/\p∉blk v/\ob∉blk v/\q∉blk v):=by
 obtain⟨a,n,c,hp, -⟩:=h.rd.out;have n1:ob≠p:=D4 h.out hp (by decide);have n2:q≠p:=D4 h.JD hp (by decide);have n3:q≠ob:=D4 h.JD h.out (by decide);have m1:p∉blk v:=fun hm=>eR (show wr.heap[p]?=_ from hp) (by decide) h.row (bA.1 hm).symm;have m2:ob∉blk v:=fun hm=>eR (show wr.heap[ob]?=_ from h.out) (by decide) h.row (bA.1 hm).symm;have m3:q∉blk v:=fun hm=>eR (show wr.heap[q]?=_ from h.JD) (by decide) h.row (bA.1 hm).symm;have lo:=h.out.lt;have lq:=h.JD.lt;refine⟨h.out.aw hw (by simp;omega),h.JD.aw hw (by simp;omega),fW h.row hw (fun x hx hm=>?_),fun x hx=>(h.each x hx).step hw (fun k hb=>?_) (fun k hb=>.inl hb),n1,n2,n3,m1,m2,m3⟩
 ·rcases List.mem_cons.1 hx with rfl | hx
  ·exact m1 hm
  have:=(h.row.lt x (bA.1 hm)).2;simp at hx;omega
 rcases List.mem_cons.1 hb with rfl | hb
 ·exact .inl (by simp)
 simp at hb;subst hb;exact .inr ht
theorem O3.next{C:bT}{l0 l' l3:List UInt8}{w wr W W1 W2:World}{b B q p ob tb:Nat}{cf:nS}{bI:Int}{ts:List dE}{v v':Value}{y:dE}(h:O3 C l0 w b B q p ob cf bI ts l' v wr)(hw:ak [p,tb] wr W)(ht:wr.heap.size<=tb)
  (hr:cw C false l'=some (y.t,l3)) (hR:Rd W q p l3) (hy:vx W y (b::B::p::ob::blk v)) (hrow:W1.ownsRow q 55 30 v' (ts.length+1) (ts.flatMap dE.cells++y.cells)) (hg:ak (blk v) W W1) (hn:∀k,v'.ownBlock=some k->v.ownBlock=some k\/W.heap.size<=k)
  (hs:ak [ob] W1 W2) (ho:ar W2 ob (zu cf bI v') 30):O3 C l0 w b B q p ob cf bI (ts++[y]) l3 v' W2:=by
 obtain⟨k1,k2,k3,k4,n1,n2,n3,m1,m2,m3⟩:=h.kept hw ht;have lo:=k1.lt;have hlt:=h.rd.lt;have FP:ob∉blk v':=fun hm=>by
  rcases hn ob (bA.1 hm)with e | e
  ·exact m2 (bA.2 e)
  omega
 have hsz:W.heap.size<=W1.heap.size:=hg.size;have hv:∀b∈blk v,q<=b:=fun b hb=>(h.row.lt b (bA.1 hb)).1;have hA:∀x,vx W x (b::B::p::ob::blk v)->vx W2 x (b::B::p::ob::blk v'):=fun x hx=>by
  have h1:vx W1 x (b::B::p::ob::(blk v++blk v')):=hx.step hg (fun b hb=>.inl (by simp[hb])) (fun k hb=>by
   simp only[List.mem_cons,List.mem_append]at hb;rcases hb with rfl | rfl | rfl | rfl | hb | hb
   ·exact .inl (by simp)
   ·exact .inl (by simp)
   ·exact .inl (by simp)
   ·exact .inl (by simp)
   ·exact .inl (by simp[hb])
   rcases hn k (bA.1 hb)with e | e
   ·exact .inl (by simp[bA.2 e])
   exact .inr e)
  exact h1.step hs (fun b hb=>.inl (by simp at hb;simp[hb])) (fun b hb=>.inl (by
   simp only[List.mem_cons,List.mem_append]at hb ⊢;rcases hb with h | h | h | h | h
   ·exact .inl h
   ·exact .inr (.inl h)
   ·exact .inr (.inr (.inl h))
   ·exact .inr (.inr (.inr (.inl h)))
   exact .inr (.inr (.inr (.inr (.inr h))))))
 refine⟨?_,?_,?_,ho,?_,?_,?_,?_,h.new⟩
 ·rw[List.length_append,List.length_singleton,dy,h.read,Option.bind_some];dsimp only;rw[hr];simp
 ·exact(hR.wrote hg hv).wrote hs (by simp;exact h.new.1)
 ·exact(k2.aw hg m3).aw hs (by simpa using n3)
 ·rw[List.length_append,List.length_singleton,List.flatMap_append];have e:[y].flatMap dE.cells=y.cells:=by simp
  rw[e];exact fW hrow hs (fun x hx=>by simp at hx;subst hx;exact FP)
 ·intro x hx;rcases List.mem_append.1 hx with hx | hx
  ·exact hA x (k4 x hx)
  rw[List.mem_singleton.1 hx];exact hA y hy
 ·have hb:Below w.heap.size w W:=h.keep.trans (hw.ag h.keep.size (by have:=h.new.2.1;have:=h.keep.size;simp;omega));exact(hb.trans (hg.ag hb.size (fun x hx=>Nat.le_trans h.new.2.2 (hv x hx)))).trans (hs.ag (by have:=hb.size;omega) (by have:=h.new;simp;omega))
 have:=lz hr;have:=h.len;rw[List.length_append,List.length_singleton];omega
theorem Lx{C:bT}{t:Tn}(h:¬(1<=t.kind/\t.kind<=8))(l:List UInt8):fB C false t l=none:=by unfold fB;rw[if_neg (by omega),if_neg (by omega),if_neg (by omega),if_neg (by omega),if_neg (by simp;omega)]
theorem rP(k c:Int)(W:World):(Instr.build 55 #[(0,.int .i64 k),(1,.int .i64 c)]).run prog W=.ok (.agg ((dS k c).cells bo bQ).toArray) W:=by kernel_rfl
structure O4 (q p:Nat)(l':List UInt8)(tb:Nat)(k c:Nat)(l2:List UInt8)(wr W:World):Prop where
 wrote:ak [p] wr W
 rd:Rd W q p l2
 turn:ar W tb ((dS k c).cells bo bQ).toArray 55
 new:wr.heap.size<=tb
 Xk:∃r1,aX 1 l'=some (k,r1)/\aX 2 r1=some (c,l2)
theorem O4.mk'{q p tb k c:Nat}{l' l2 r1:List UInt8}{wr W W':World}(h1:aX 1 l'=some (k,r1))(h2:aX 2 r1=some (c,l2))(hw:ak [p] wr W)(hr:Rd W q p l2)(hs:ak [tb] W W')(ht:ar W' tb ((dS k c).cells bo bQ).toArray 55)(hn:wr.heap.size<=tb)(hq:q<=wr.heap.size):O4 q p l' tb k c l2 wr W':=
 ⟨hw.fu hs (by simpa using hn),hr.wrote hs (by simp;omega),ht,hn,r1,h1,h2⟩
theorem Im(C:bT)(a:Option Addr)(n c:Nat)(l:List UInt8)(w0 w:World)(g b B:Nat)(hrow:ax w a n c (bs l))(hg:Boxed w g 22 (.slice a n c))(QL:QK w0 b B w)(hn:n<=70368744177664)(hT:TzAt w)(hb0:w0.heap.size<=b)(hBb:B≠b)
  (hN:∀s,bh C false l=some s->vr s.cf) (hK:∀s,bh C false l=some s->∀x:dE,x.t∈s.ts->np x) (hD:19<=l.length->∀k,yL C k):
  Calls prog 18 #[.pointer (some ⟨g,0,none⟩),.pointer (some ⟨b,0,none⟩)] w fun e w'=>∃o,e=ends o (.tuple #[])/\Tt C l w0 b B o w'/\Boxed w' B 31 (.int .i64 0):=by
 have wA:∀(fn:Fn)(first cap:Array Value)(w:World),(Instr.makeFunc fn first cap).run prog w=.ok (.func fn first cap) w:=fun _ _ _ _=>rfl;have CM:=af lX;have Ff:l.length=n:=by have:=hrow.len;rwa [cV]at this
 have fin:Hid (∀o W,Tt C l w0 b B o W->∃o',ends o (.tuple #[])=ends o' (.tuple #[])/\Tt C l w0 b B o' W/\Boxed W B 31 (.int .i64 0)):=af fun o W h=>⟨o,rfl,h,h.err⟩;have k0:=hg.cell;by_cases h1:(n:Int)<=65536
 case neg=>
  have d1:decide ((n:Int)<=65536)=false:=decide_eq_false h1;have H:=af (show Tt C l w0 b B (some 3) w from⟨QL.err,QL.ag,.inl ⟨by omega,rfl,QL.out⟩⟩);clear h1 Ff;go_enter func18,ntmps18;refine wp_scope_straight ?_;go_wp2_with (go_at_call 19;refine(CM _ _ _).mono ?_;rintro e w9 ⟨rfl,rfl⟩)
  exact⟨rfl,some 3,rfl,H.out,H.err⟩
 have d1:decide ((n:Int)<=65536)=true:=decide_eq_true h1;have Io:=af (show l.length<=65536 by omega);have CR:=af (m9 a n c l w hrow hn);have KW:Hid (∀W,Below w.heap.size w W->QK w0 b B W/\TzAt W):=af fun W h=>⟨QL.wrote (ak.aK (M:=[]) h) (by simp) (by simp) (by simp),hT.ag h⟩;have hsw:=QL.ag.size;have mH:=af (show b<w.heap.size from QL.out.lt);have hBw:=af (show B<w.heap.size from QL.err.lt);replace hN:=af hN;replace hK:=af hK;replace hD:=af hD;have HG:=af hg;clear h1 Ff hrow hT QL hg;go_enter func18,ntmps18;refine wp_scope_straight ?_;go_upto_region 2 with(first
  | (go_at_call 19;refine(CM _ _ _).mono ?_;rintro e w9 ⟨rfl,rfl⟩)
  | (go_at_call 20;refine CR.mono ?_;rintro e w1 ⟨p,rfl,hp,hR,hb1⟩))
 have hpB:=hR.lt;obtain⟨w2,hw2⟩:=ae (w1.alloc (.cells #[.pointer (some ⟨p,0,none⟩)] 61));obtain⟨q,hq⟩:=ae w1.heap.size;have hx2:ar w2 q #[.pointer (some ⟨p,0,none⟩)] 61:=by rw[<-hw2,<-hq];exact ar.new _ _ _
 have hb2:Below w.heap.size w w2:=by rw[<-hw2];exact hb1.alloc (by omega) _
 have mC:Rd w2 q p l:=by rw[<-hw2,<-hq];exact hR.ag (ai.alloc ah _)
 have rf:=af hb2;rw[hw2,hq];rw[hq]at hpB;have hf:=enters_of func22 (by kernel_rfl) rfl;have CT:=af (AG 22 #[.pointer (some ⟨q,0,none⟩)] 2 7 q p q l w2 hf mC hx2 (by omega) hx2.lt (by decide) (fun W l1 h1 h2=>Tg W q p q l1 h1 h2));have s2:=hb2.size;replace hx2:=af hx2;clear hb1 hR hw2 hq mC hb2;go_wp2_with fail;refine CT.mono ?_;rintro e w3 ⟨hw3,hx3⟩;have Nt:=af (rf.trans (hw3.ag (n₀:=w.heap.size) rf.size (by simp;omega)));have hs3:=Nt.size;rcases hx3 with⟨hno,rfl⟩ | ⟨xs,l1,v,hm,rfl,Xl,qJ⟩
 ·have H:=af ((KW _ Nt.out).1.bad (C:=C) Io.out (fun s hs=>by unfold bh at hs;have e:bJ jR 7 l=none:=hno;rw[e]at hs;cases hs))
  exact⟨rfl,some 390,rfl,H.out,H.err⟩
 obtain⟨hxl,QD⟩:=jQ jR (fun z=>ay 2 z.toNat) (fun l x r h=>ve h) 7 l xs l1 hm;obtain⟨z0,z1,z2,z3,z4,z5,z6,rfl⟩:∃z0 z1 z2 z3 z4 z5 z6,xs=[z0,z1,z2,z3,z4,z5,z6]:=by
  match xs,QD with
  | [z0,z1,z2,z3,z4,z5,z6],_=>exact⟨z0,z1,z2,z3,z4,z5,z6,rfl⟩
 have xj:Hid (l.length=14+l1.length):=af (by rw[hxl,List.length_append,nU];simp)
 obtain⟨av,cv,rfl⟩:=aA qJ;have mK:∀zs:List Int,yK zs=zs.flatMap jD:=fun zs=>by
  unfold yK jD;induction zs with
  | nil=>rfl
  | cons z zs ih=>rw[List.map_cons,List.flatMap_cons,ih];rfl
 rw[mK]at qJ;obtain⟨g3,rfl, -,Nk⟩:=jB jD (fun _=>rfl) (l:=[z0,z1,z2,z3,z4,z5,z6]) rfl qJ (k:=0) rfl;have pj:∀(k:Nat)(z:Int),[z0,z1,z2,z3,z4,z5,z6][k]?=some z->w3.cell? ⟨g3,k,none⟩=some (.int .i64 z):=fun k z hz=>by obtain⟨g,e, -,hr⟩:=jB jD (fun _=>rfl) (l:=[z0,z1,z2,z3,z4,z5,z6]) rfl qJ hz;cases e;have:=hr 0 (.int .i64 z) rfl;simpa using this
 have hg3:g3<w3.heap.size:=gJ (pj 0 z0 rfl);have Xm:g3≠p:=by have h1:=(qJ.lt g3 rfl).1;have h2:=hx2.lt;omega
 have hx3:=hx2.aw hw3 (by simp;omega);replace hm:=af (show bJ jR 7 l=some ([z0,z1,z2,z3,z4,z5,z6],l1)from hm);clear mK qJ hxl QD Nk hw3;go_upto_region 3 with fail;have CX:=af (qB (Xl.ag ((Below.refl _ w3).drew)));go_cut [4]from 17 (fun s4 wx=>∃(ob:Nat)(sec l0:List UInt8),s4=.pointer (some ⟨ob,0,none⟩)/\Hid (bC l1=some (sec,l0))/\Hid (O3 C l0 w b B q p ob ⟨z0,z1,z2,z3,z4,z5,sec⟩ z6 [] l0 (.slice none 0 0) wx))
 case first=>
  --BEG
  have AQ:∀(k:Nat)(z:Int),[z0,z1,z2,z3,z4,z5,z6][k]?=some z->w3.drew.cell? ⟨g3,k,none⟩=some (.int .i64 z):=pj;have xD:ar w3.drew q #[.pointer (some ⟨p,0,none⟩)] 61:=hx3;refine lS [(1000,fun w'=>∀(k:Nat)(z:Int),[z0,z1,z2,z3,z4,z5,z6][k]?=some z->w'.cell? ⟨g3,k,none⟩=some (.int .i64 z)),(1000,fun w'=>ar w' q #[.pointer (some ⟨p,0,none⟩)] 61)] ?_ (by kernel_rfl) ⟨AQ,xD,trivial⟩ fun KQ aL=>?_
  ·intro c a d v w h;cases d<;>exact h
  try simp only[PT]
  refine tQ [0,1] ?_;refine aG 2 rfl (by kernel_rfl) (by kernel_rfl) rfl rfl 0 rfl (by kernel_rfl) (.int .i64 z0) (fun w' hf=>by(have k0:=hf 0 z0 rfl;go_simp<;>with_reducible rfl)) ?_;simp only[PT];refine tQ [3,4] ?_;refine aG 5 rfl (by kernel_rfl) (by kernel_rfl) rfl rfl 0 rfl (by kernel_rfl) (.int .i64 z1) (fun w' hf=>by(have k0:=hf 1 z1 rfl;go_simp<;>with_reducible rfl)) ?_;simp only[PT];refine tQ [6,7] ?_;refine aG 8 rfl (by kernel_rfl) (by kernel_rfl) rfl rfl 0 rfl (by kernel_rfl) (.int .i64 z2) (fun w' hf=>by(have k0:=hf 2 z2 rfl;go_simp<;>with_reducible rfl)) ?_;simp only[PT];refine tQ [9,10] ?_;refine aG 11 rfl (by kernel_rfl) (by kernel_rfl) rfl rfl 0 rfl (by kernel_rfl) (.int .i64 z3) (fun w' hf=>by(have k0:=hf 3 z3 rfl;go_simp<;>with_reducible rfl)) ?_;simp only[PT];refine tQ [12,13,14] ?_;refine aG 15 rfl (by kernel_rfl) (by kernel_rfl) rfl rfl 0 rfl (by kernel_rfl) (.int .i64 z4) (fun w' hf=>by(have k0:=hf 4 z4 rfl;go_simp<;>with_reducible rfl)) ?_;simp only[PT];refine tQ [16,17] ?_;refine aG 18 rfl (by kernel_rfl) (by kernel_rfl) rfl rfl 0 rfl (by kernel_rfl) (.int .i64 z5) (fun w' hf=>by(have k0:=hf 5 z5 rfl;go_simp<;>with_reducible rfl)) ?_;simp only[PT];refine aG 19 rfl (by kernel_rfl) (by kernel_rfl) rfl rfl 1 rfl (by kernel_rfl) (.agg #[.pointer (some ⟨p,0,none⟩)]) (fun w' hf=>by(exact aM hf 61 underlying61 rfl (by kernel_rfl))) ?_
  simp only[PT];refine tQ [22,23] ?_;refine aG 24 rfl (by kernel_rfl) (by kernel_rfl) rfl rfl 0 rfl (by kernel_rfl) (.int .i64 z6) (fun w' hf=>by(have k0:=hf 6 z6 rfl;go_simp<;>with_reducible rfl)) ?_;simp only[PT];have BD:Below w.heap.size w w3.drew:=Nt.drew;have RD:Hid (Rd w3.drew q p l1):=af (Xl.ag ((Below.refl _ w3).drew));obtain⟨WD,di⟩:=ae w3.drew;rw[di]at AQ xD BD RD CX ⊢;have Ch:=BD.size;refine dM [20,26] (fun j hj=>?_);have hj:j=20\/j=26:=by simpa using hj
  rcases hj with rfl | rfl
  ·refine⟨⟨_,rfl,by kernel_rfl,fun K hK=>?_⟩⟩;go_simp;refine CX.mono ?_;rintro e w4 (⟨hno,rfl,hw4⟩ | ⟨⟨sec,l0⟩,ht,rfl,xJ,hw4⟩)
   ·refine aL.out _ _ _ ?_;have JE:=BD.trans (hw4.ag (n₀:=w.heap.size) Ch (by simp;omega));have H:=(KW _ JE).1.bad (C:=C) Io.out (fun s hs=>by unfold bh at hs;rw[hm.out,Option.bind_some]at hs;dsimp only at hs;rw[hno]at hs;cases hs)
    exact⟨rfl,some 390,rfl,H,H.err⟩
   have JE:=BD.trans (hw4.ag (n₀:=w.heap.size) Ch (by simp;omega));have Ip:=JE.size;have Lz:∀(k:Nat)(z:Int),[z0,z1,z2,z3,z4,z5,z6][k]?=some z->w4.cell? ⟨g3,k,none⟩=some (.int .i64 z):=fun k z hz=>(nZ hw4 (gJ (AQ k z hz)) (by simpa using Xm)).trans (AQ k z hz);have QM:=xD.aw hw4 (by simp;omega);refine hK _ _ ⟨⟨fun _=>Lz,fun _=>QM,trivial⟩,?_⟩;clear hK K;try simp only[PT]
   refine tQ [21,25] ?_;refine sQ 26 fun K hK=>?_;simp only[GO];go_simp;refine hK _ _ ⟨⟨fun _ k z hz=>eI (Lz k z hz) _,fun _=>QM.alloc _,trivial⟩,?_⟩;clear hK K;try simp only[PT]
   refine sQ 27 fun K hK=>?_;simp only[GO];refine wW 30 9 rfl w4.heap.size kR.cells.toArray (zu ⟨z0,z1,z2,z3,z4,z5,sec⟩ z6 (.slice none 0 0)) rfl rfl (ar.new _ _ _) rfl rfl (by simp[zu,Value.oneCell']) fun w5 eo fh=>?_;replace fh:ak [w4.heap.size] (w4.alloc (.cells kR.cells.toArray 30)) w5:=fh;have Tv:(w4.alloc (.cells kR.cells.toArray 30)).heap.size=w4.heap.size+1:=by simp
   have Nu:=(JE.alloc Ip (.cells kR.cells.toArray 30)).trans (fh.ag (n₀:=w.heap.size) (by omega) (by simp;omega));have Xn:∀(k:Nat)(z:Int),[z0,z1,z2,z3,z4,z5,z6][k]?=some z->w5.cell? ⟨g3,k,none⟩=some (.int .i64 z):=fun k z hz=>(nZ fh (by have:=gJ (Lz k z hz);simp at this;omega) (by have:=gJ (Lz k z hz);simp at this;simp;omega)).trans (eI (Lz k z hz) _);have Xo:=(QM.alloc (.cells kR.cells.toArray 30)).aw fh (by have:=QM.lt;simp;omega);have R5:=(xJ.ag ((Below.refl _ w4).alloc ah (.cells kR.cells.toArray 30))).wrote fh (by have:=xJ.base;simp;omega);refine hK _ _ ⟨⟨fun _=>Xn,fun _=>Xo,trivial⟩,?_⟩;clear hK K;try simp only[PT]
   refine dQ (aL.out _ _ _ ?_);have H:Hid (O3 C l0 w b B q p w4.heap.size ⟨z0,z1,z2,z3,z4,z5,sec⟩ z6 [] l0 (.slice none 0 0) w5):=af ⟨rfl,R5,Xo,eo,World.ownsRow_nil _ _ _ _,fun x h=>(by cases h),Nu,by simp,by have:=QM.lt;omega,by omega,by omega⟩;have HTX:=af ht;clear aL KQ Xn Lz AQ;go_wp2;go_meet
   case rel=>exact⟨_,sec,l0,rfl,HTX,H⟩
  ·refine⟨⟨_,rfl,by kernel_rfl,fun K hK=>?_⟩⟩;go_simp;have ZP:∀(k:Nat)(z:Int),[z0,z1,z2,z3,z4,z5,z6][k]?=some z->(WD.alloc (.cells kR.cells.toArray 30)).cell? ⟨g3,k,none⟩=some (.int .i64 z):=fun k z hz=>eI (AQ k z hz) _;have xwA:=xD.alloc (.cells kR.cells.toArray 30);have BA:=BD.alloc Ch (.cells kR.cells.toArray 30);have RA:=RD.ag ((Below.refl _ WD).alloc ah (.cells kR.cells.toArray 30));have oA:ar (WD.alloc (.cells kR.cells.toArray 30)) WD.heap.size kR.cells.toArray 30:=ar.new _ _ _;have hzA:(WD.alloc (.cells kR.cells.toArray 30)).heap.size=WD.heap.size+1:=by simp
   refine hK _ _ ⟨⟨fun _=>ZP,fun _=>xwA,trivial⟩,?_⟩;clear hK K;try simp only[PT]
   refine sQ 20 fun K hK=>?_;simp only[GO];go_simp;refine(qB RA).mono ?_;rintro e w4 (⟨hno,rfl,hw4⟩ | ⟨⟨sec,l0⟩,ht,rfl,xJ,hw4⟩)
   ·refine aL.out _ _ _ ?_;have JE:=BA.trans (hw4.ag (n₀:=w.heap.size) BA.size (by simp;omega));have H:=(KW _ JE).1.bad (C:=C) Io.out (fun s hs=>by unfold bh at hs;rw[hm.out,Option.bind_some]at hs;dsimp only at hs;rw[hno]at hs;cases hs)
    exact⟨rfl,some 390,rfl,H,H.err⟩
   have JE:=BA.trans (hw4.ag (n₀:=w.heap.size) BA.size (by simp;omega));have Lz:∀(k:Nat)(z:Int),[z0,z1,z2,z3,z4,z5,z6][k]?=some z->w4.cell? ⟨g3,k,none⟩=some (.int .i64 z):=fun k z hz=>(nZ hw4 (gJ (ZP k z hz)) (by simpa using Xm)).trans (ZP k z hz);have QM:=xwA.aw hw4 (by simp;omega);have o4:=oA.aw hw4 (by have:=RD.lt;have:=xD.lt;simp;omega);refine hK _ _ ⟨⟨fun _=>Lz,fun _=>QM,trivial⟩,?_⟩;clear hK K;try simp only[PT]
   refine tQ [21,25] ?_;refine sQ 27 fun K hK=>?_;simp only[GO];refine wW 30 9 rfl WD.heap.size kR.cells.toArray (zu ⟨z0,z1,z2,z3,z4,z5,sec⟩ z6 (.slice none 0 0)) rfl rfl o4 rfl rfl (by simp[zu,Value.oneCell']) fun w5 eo fh=>?_;have Nu:=JE.trans (fh.ag (n₀:=w.heap.size) JE.size (by simp;omega));have Xn:∀(k:Nat)(z:Int),[z0,z1,z2,z3,z4,z5,z6][k]?=some z->w5.cell? ⟨g3,k,none⟩=some (.int .i64 z):=fun k z hz=>(nZ fh (gJ (Lz k z hz)) (by have:=gJ (AQ k z hz);simp at this;simp;omega)).trans (Lz k z hz);have Xo:=QM.aw fh (by have:=xD.lt;simp;omega);have R5:=xJ.wrote fh (by have:=RD.base;simp;omega);refine hK _ _ ⟨⟨fun _=>Xn,fun _=>Xo,trivial⟩,?_⟩;clear hK K;try simp only[PT]
   refine dQ (aL.out _ _ _ ?_);have H:Hid (O3 C l0 w b B q p WD.heap.size ⟨z0,z1,z2,z3,z4,z5,sec⟩ z6 [] l0 (.slice none 0 0) w5):=af ⟨rfl,R5,Xo,eo,World.ownsRow_nil _ _ _ _,fun x h=>(by cases h),Nu,by simp,by have:=xD.lt;omega,by omega,by omega⟩;have HTX:=af ht;clear aL KQ Xn Lz AQ ZP;go_wp2;go_meet
   case rel=>exact⟨_,sec,l0,rfl,HTX,H⟩
  --END
 case rest=>
  obtain⟨ob,sec,l0,rfl,ht,hI⟩:=hcut;have HH:=af (yQ (C:=C) hm.out ht.out);have hl0:Hid (16+l0.length<=l.length):=af (by have:=Lv ht.out;have:=xj.out;omega);obtain⟨cf,Cc⟩:=ae ((⟨z0,z1,z2,z3,z4,z5,sec⟩:nS):nS);rw[Cc]at HH hI;have CL:=af (fun(W:World)(l':List UInt8)(h:Rd W q p l')=>lu h);clear Cc pj hx3 CX;clear Xl Nt hs3;go_wp2_with fail;refine wp_label ?_;go_wp2_with fail
  go_loopw [43] (fun _ wr=>∃(ts:List dE)(l':List UInt8)(v:Value),Hid (O3 C l0 w b B q p ob cf z6 ts l' v wr)) (fun _ wr=>iY (wr.cell? ⟨p,0,none⟩))
  case atStart=>exact⟨[],l0,_,hI⟩
  case round=>
   obtain⟨ts,l',v,hJ⟩:=hrel;have kq:wr.cell? ⟨q,0,none⟩=some (.pointer (some ⟨p,0,none⟩)):=hJ.out.JD.cell 0;have yR:=af (CL wr l' hJ.out.rd);rcases Nat.eq_zero_or_pos l'.length with hz | zQ
   ·have d0:((l'.length:Int)==0)=true:=by simp[hz]
    have hnil:l'=[]:=List.length_eq_zero_iff.1 hz;have hall:=(ej (cw C false) (fun l x r h=>by have:=lz h;omega) ts.length l0.length l0 l' _ hJ.out.read ah).1 hnil;obtain⟨av,cv,rfl⟩:=aA hJ.out.row;obtain⟨s,hs⟩:=ae ((⟨cf,z6,⟨av,ts.length,cv⟩,ts⟩:lj):lj);have hsc:Hid (bh C false l=some s.sc):=af (by rw[HH.out,hall,<-hs];rfl);have hsA:Hid (zu cf z6 (.slice av ts.length cv)=s.cells.toArray):=af (by rw[<-hs];rfl);have cd:Hid (s.In wr):=af (by rw[<-hs];exact⟨cX (f:=dE.cells) (size:=30) (fun x=>rfl) hJ.out.row rfl,fun x hx=>(hJ.out.each x hx).OQ⟩)
    have hbq:b<q:=by have:=hJ.out.new;have:=mH.out;omega
    have hBq:B<q:=by have:=hJ.out.new;have:=hBw.out;omega
    have abV:Hid (∀w5 w6,Below wr.heap.size wr w5->ak [b,B] w5 w6->s.In w6):=af fun w5 w6 h5 h6=>by rw[<-hs];refine⟨cX (f:=dE.cells) (size:=30) (fun x=>rfl) (fW (aB hJ.out.row h5) h6 (fun y hy hm=>?_)) rfl,fun x hx=>(((hJ.out.each x hx).step (ak.aK (M:=[]) h5) (fun k hk=>by cases hk) (fun k hk=>.inl hk)).step h6 (fun k hk=>.inl (by simp at hk;rcases hk with rfl | rfl<;>simp)) (fun k hk=>.inl hk)).OQ⟩;have:=(hJ.out.row.lt y (bA.1 hm)).1;simp at hy;omega
    clear hBq;clear hbq;have iP:=hJ.out.out;rw[hsA]at iP;have CR:=af (Av s 390 wr cd.out (KW _ hJ.out.keep).2 (hN _ hsc.out) (fun x hx=>hK.out _ hsc.out x (List.mem_map_of_mem hx)));obtain⟨sv,eQ⟩:=ae s.cells.toArray;have is:(prog.info? 30).map (·.size)=some sv.size:=by rw[<-eQ];exact(by kernel_rfl:(prog.info? 30).map (·.size)=some 9)
    have HSO:=af iP;rw[eQ]at iP CR HSO;have hsz:sv.size=9:=by rw[<-eQ];rfl
    have aV:Hid (∀u∈sv.toList,u.oneCell'=true):=af (by rw[<-eQ];simp[lj.cells,Value.oneCell']);replace eQ:=af eQ;replace hsz:=af hsz;clear hs hnil hz hall;go_wp2_with (first
     | (go_at_call 25;refine yR.mono ?_;rintro e w4 ⟨rfl,rfl⟩)
     | (refine wL 30 rfl rfl iP underlying30 ?_ rfl rfl is))
    refine CR.mono ?_;rintro e w5 ⟨r,hr,rfl,eF⟩;have Nu:=af (hJ.out.keep.trans (eF.mono hJ.out.keep.size));have Xp:=(KW _ Nu.out).1;have abW:=HSO.ag eF;have ag8:=af (cd.ag eF);cases r with
    | false=>
     have H:=af (Xp.bad (C:=C) Io.out (fun s' hs' h=>by rw[hsc]at hs';cases hs';have:=hr.2 h;simp at this))
     exact⟨rfl,some 390,rfl,H.out,H.err⟩
    | true=>
     have abX:=af eF;have Nl:Hid (bZ s.sc):=af (by simpa using hr);have abY:=Xp.out;have hbl:=af (show w0.heap.size<=b from hb0);have abZ:=af hBb;have HE5:=af Xp.err;have HK5:=af Xp.ag;clear hr eF Xp iP;go_wp2_with (first
      | (refine wL 30 rfl rfl abW underlying30 ?_ rfl rfl is)
      | (refine wS 30 9 rfl b kR.cells.toArray sv rfl rfl abY hsz.out rfl aV.out ?_;intro w6 kh mL))
     have H:Tt C l w0 b B none w6:=⟨mL.boxed (by simpa using abZ.out) HE5.out,HK5.trans (mL.ag (n₀:=w0.heap.size) HK5.size (by simp;exact hbl.out)),.inr (.inr ⟨Io.out,s,hsc.out,Nl.out,rfl,by rw[eQ.out];exact kh,fun W' hW'=>abV.out _ _ abX.out ((mL.sub (by simp)).trans hW')⟩)⟩
     go_end0
     exact⟨none,rfl,H,H.err⟩
   have d0:((l'.length:Int)==0)=false:=by simp;intro h;simp[h]at zQ
   have eK:Hid (cw C false l'=none->∀s,bh C false l=some s->¬bZ s):=af fun h s hs=>by have h1:=(ej (cw C false) (fun l x r h=>by have:=lz h;omega) ts.length l0.length l0 l' _ hJ.out.read ah).2 (by intro e;subst e;simp at zQ) h;rw[HH.out,h1]at hs;cases hs
   go_upto_region 5 with(go_at_call 25;refine yR.mono ?_;rintro e w4 ⟨rfl,rfl⟩)
   have hqp:p<q:=hJ.out.rd.lt;have hqw:q<wr.heap.size:=hJ.out.JD.lt;go_cut [5]from 47 to 70 (fun s5 wx=>∃(tb k c:Nat)(l2:List UInt8),s5=.pointer (some ⟨tb,0,none⟩)/\Hid (O4 q p l' tb k c l2 wr wx))
   case first=>
    --BEG
    have xD:ar wr.drew q #[.pointer (some ⟨p,0,none⟩)] 61:=hJ.out.JD;have BD:Below w.heap.size w wr.drew:=hJ.out.keep.drew;have RD:Rd wr.drew q p l':=hJ.out.rd.ag ((Below.refl _ wr).drew);have wD:ak [p] wr wr.drew:=ak.aK ((Below.refl _ wr).drew);have Ic:=hJ.out.new.2.1;refine lS [(1000,fun w'=>ar w' q #[.pointer (some ⟨p,0,none⟩)] 61)] ?_ (by kernel_rfl) ⟨xD,trivial⟩ fun KQ aL=>?_
    ·intro c a d v w h;cases d<;>exact h
    try simp only[PT]
    refine aG 0 rfl (by kernel_rfl) (by kernel_rfl) rfl rfl 0 rfl (by kernel_rfl) (.agg #[.pointer (some ⟨p,0,none⟩)]) (fun w' hf=>by(exact aM hf 61 underlying61 rfl (by kernel_rfl))) ?_;simp only[PT];refine aG 2 rfl (by kernel_rfl) (by kernel_rfl) rfl rfl 0 rfl (by kernel_rfl) (.agg #[.pointer (some ⟨p,0,none⟩)]) (fun w' hf=>by(exact aM hf 61 underlying61 rfl (by kernel_rfl))) ?_;simp only[PT];obtain⟨WD,di⟩:=ae wr.drew;have Ch:wr.heap.size=WD.heap.size:=by rw[<-di];rfl
    rw[di]at xD BD RD wD ⊢;refine dM [1,5] (fun j hj=>?_);have hj:j=1\/j=5:=by simpa using hj
    rcases hj with rfl | rfl
    ·refine⟨⟨_,rfl,by kernel_rfl,fun K hK=>?_⟩⟩;go_simp;refine(eT RD 1 (by decide) (by decide)).mono ?_;rintro e wa (⟨hno,rfl,sM⟩ | ⟨⟨k1,r1⟩,hx1,rfl,Ra,sM⟩)
     ·refine aL.out _ _ _ ?_;have hb:=BD.trans (sM.ag (n₀:=w.heap.size) BD.size (by simp;omega));have H:=(KW _ hb).1.bad (C:=C) Io.out (eK (by unfold cw;rw[hno];rfl))
      exact⟨rfl,some 390,rfl,H,H.err⟩
     dsimp only at Ra ⊢;have Ba:=BD.trans (sM.ag (n₀:=w.heap.size) BD.size (by simp;omega));have xa:=xD.aw sM (by simp;omega);have fa:=wD.trans sM;refine hK _ _ ⟨⟨fun _=>xa,trivial⟩,?_⟩;clear hK K;try simp only[PT]
     refine dM [3,5] (fun j hj=>?_);have hj:j=3\/j=5:=by simpa using hj
     rcases hj with rfl | rfl
     ·refine⟨⟨_,rfl,by kernel_rfl,fun K hK=>?_⟩⟩;go_simp;refine(eT Ra 2 (by decide) (by decide)).mono ?_;rintro e wb (⟨hno,rfl,ov⟩ | ⟨⟨k2,r2⟩,hx2,rfl,Rb,ov⟩)
      ·refine aL.out _ _ _ ?_;have hb:=Ba.trans (ov.ag (n₀:=w.heap.size) Ba.size (by simp;omega));have H:=(KW _ hb).1.bad (C:=C) Io.out (eK (by unfold cw;rw[hx1,Option.bind_some];dsimp only;rw[hno];rfl))
       exact⟨rfl,some 390,rfl,H,H.err⟩
      dsimp only at Rb ⊢;have Bb:=Ba.trans (ov.ag (n₀:=w.heap.size) Ba.size (by simp;omega));have xb:=xa.aw ov (by simp;omega);have fb:=fa.trans ov;refine hK _ _ ⟨⟨fun _=>xb,trivial⟩,?_⟩;clear hK K;try simp only[PT]
      refine py 4 #[(0,.int .i64 (k1:Int)),(1,.int .i64 (k2:Int))] _ rfl rfl rfl (rP _ _) ?_;try simp only[PT]
      refine sQ 5 fun K hK=>?_;simp only[GO];go_simp;have xc:=xb.alloc (.cells zT 55);have Bc:=Bb.alloc Bb.size (.cells zT 55);have Rc:=Rb.ag ((Below.refl _ wb).alloc ah (.cells zT 55));have fc:=fb.trans (ak.alloc [p] wb (.cells zT 55));have oc:ar (wb.alloc (.cells zT 55)) wb.heap.size zT 55:=ar.new _ _ _;have sc:wr.heap.size<=wb.heap.size:=fb.size;refine hK _ _ ⟨⟨fun _=>xc,trivial⟩,?_⟩;clear hK K;try simp only[PT]
      refine sQ 6 fun K hK=>?_;simp only[GO];refine wW 55 30 rfl wb.heap.size zT ((dS k1 k2).cells bo bQ).toArray rfl rfl oc rfl rfl (by simp[Tn.cells,Value.oneCell']) fun wz hwz D5=>?_;have ki:=xc.aw D5 (by simp;omega);refine hK _ _ ⟨⟨fun _=>ki,trivial⟩,?_⟩;clear hK K;try simp only[PT]
      refine dQ (aL.out _ _ _ ?_);have HT:Hid (O4 q p l' wb.heap.size k1 k2 r2 wr wz):=af (O4.mk' hx1 hx2 fc Rc D5 hwz sc (by omega));clear aL KQ;go_wp2;go_meet
      case rel=>exact⟨_,_,_,_,rfl,HT⟩
     refine⟨⟨_,rfl,by kernel_rfl,fun K hK=>?_⟩⟩;go_simp;have xb:=xa.alloc (.cells zT 55);have Bb:=Ba.alloc Ba.size (.cells zT 55);have Rb:=Ra.ag ((Below.refl _ wa).alloc ah (.cells zT 55));have fb:=fa.trans (ak.alloc [p] wa (.cells zT 55));have o2:ar (wa.alloc (.cells zT 55)) wa.heap.size zT 55:=ar.new _ _ _;have sb:wr.heap.size<=wa.heap.size:=fa.size;refine hK _ _ ⟨⟨fun _=>xb,trivial⟩,?_⟩;clear hK K;try simp only[PT]
     refine sQ 3 fun K hK=>?_;simp only[GO];go_simp;refine(eT Rb 2 (by decide) (by decide)).mono ?_;rintro e wc (⟨hno,rfl,hwc⟩ | ⟨⟨k2,r2⟩,hx2,rfl,Rc,hwc⟩)
     ·refine aL.out _ _ _ ?_;have hb:=Bb.trans (hwc.ag (n₀:=w.heap.size) Bb.size (by simp;omega));have H:=(KW _ hb).1.bad (C:=C) Io.out (eK (by unfold cw;rw[hx1,Option.bind_some];dsimp only;rw[hno];rfl))
      exact⟨rfl,some 390,rfl,H,H.err⟩
     dsimp only at Rc ⊢;have Bc:=Bb.trans (hwc.ag (n₀:=w.heap.size) Bb.size (by simp;omega));have xc:=xb.aw hwc (by simp;omega);have fc:=fb.trans hwc;have oc:=o2.aw hwc (by have:=Ra.lt;have:=Ra.base;simp;omega);refine hK _ _ ⟨⟨fun _=>xc,trivial⟩,?_⟩;clear hK K;try simp only[PT]
     refine py 4 #[(0,.int .i64 (k1:Int)),(1,.int .i64 (k2:Int))] _ rfl rfl rfl (rP _ _) ?_;try simp only[PT]
     refine sQ 6 fun K hK=>?_;simp only[GO];refine wW 55 30 rfl wa.heap.size zT ((dS k1 k2).cells bo bQ).toArray rfl rfl oc rfl rfl (by simp[Tn.cells,Value.oneCell']) fun wz hwz D5=>?_;have ki:=xc.aw D5 (by simp;omega);refine hK _ _ ⟨⟨fun _=>ki,trivial⟩,?_⟩;clear hK K;try simp only[PT]
     refine dQ (aL.out _ _ _ ?_);have HT:Hid (O4 q p l' wa.heap.size k1 k2 r2 wr wz):=af (O4.mk' hx1 hx2 fc Rc D5 hwz sb (by omega));clear aL KQ;go_wp2;go_meet
     case rel=>exact⟨_,_,_,_,rfl,HT⟩
    ·refine⟨⟨_,rfl,by kernel_rfl,fun K hK=>?_⟩⟩;go_simp;have xa:=xD.alloc (.cells zT 55);have Ba:=BD.alloc BD.size (.cells zT 55);have Ra:=RD.ag ((Below.refl _ WD).alloc ah (.cells zT 55));have fa:=wD.trans (ak.alloc [p] WD (.cells zT 55));have oa:ar (WD.alloc (.cells zT 55)) WD.heap.size zT 55:=ar.new _ _ _;have sa:wr.heap.size<=WD.heap.size:=wD.size;refine hK _ _ ⟨⟨fun _=>xa,trivial⟩,?_⟩;clear hK K;try simp only[PT]
     refine sQ 1 fun K hK=>?_;simp only[GO];go_simp;refine(eT Ra 1 (by decide) (by decide)).mono ?_;rintro e wb (⟨hno,rfl,ov⟩ | ⟨⟨k1,r1⟩,hx1,rfl,Rb,ov⟩)
     ·refine aL.out _ _ _ ?_;have hb:=Ba.trans (ov.ag (n₀:=w.heap.size) Ba.size (by simp;omega));have H:=(KW _ hb).1.bad (C:=C) Io.out (eK (by unfold cw;rw[hno];rfl))
      exact⟨rfl,some 390,rfl,H,H.err⟩
     dsimp only at Rb ⊢;have Bb:=Ba.trans (ov.ag (n₀:=w.heap.size) Ba.size (by simp;omega));have xb:=xa.aw ov (by simp;omega);have fb:=fa.trans ov;have o2:=oa.aw ov (by have:=RD.lt;have:=RD.base;simp;omega);refine hK _ _ ⟨⟨fun _=>xb,trivial⟩,?_⟩;clear hK K;try simp only[PT]
     refine sQ 3 fun K hK=>?_;simp only[GO];go_simp;refine(eT Rb 2 (by decide) (by decide)).mono ?_;rintro e wc (⟨hno,rfl,hwc⟩ | ⟨⟨k2,r2⟩,hx2,rfl,Rc,hwc⟩)
     ·refine aL.out _ _ _ ?_;have hb:=Bb.trans (hwc.ag (n₀:=w.heap.size) Bb.size (by simp;omega));have H:=(KW _ hb).1.bad (C:=C) Io.out (eK (by unfold cw;rw[hx1,Option.bind_some];dsimp only;rw[hno];rfl))
      exact⟨rfl,some 390,rfl,H,H.err⟩
     dsimp only at Rc ⊢;have Bc:=Bb.trans (hwc.ag (n₀:=w.heap.size) Bb.size (by simp;omega));have xc:=xb.aw hwc (by simp;omega);have fc:=fb.trans hwc;have o3:=o2.aw hwc (by have:=RD.lt;have:=RD.base;simp;omega);refine hK _ _ ⟨⟨fun _=>xc,trivial⟩,?_⟩;clear hK K;try simp only[PT]
     refine py 4 #[(0,.int .i64 (k1:Int)),(1,.int .i64 (k2:Int))] _ rfl rfl rfl (rP _ _) ?_;try simp only[PT]
     refine sQ 6 fun K hK=>?_;simp only[GO];refine wW 55 30 rfl WD.heap.size zT ((dS k1 k2).cells bo bQ).toArray rfl rfl o3 rfl rfl (by simp[Tn.cells,Value.oneCell']) fun wz hwz D5=>?_;have ki:=xc.aw D5 (by simp;omega);refine hK _ _ ⟨⟨fun _=>ki,trivial⟩,?_⟩;clear hK K;try simp only[PT]
     refine dQ (aL.out _ _ _ ?_);have HT:Hid (O4 q p l' WD.heap.size k1 k2 r2 wr wz):=af (O4.mk' hx1 hx2 fc Rc D5 hwz sa (by omega));clear aL KQ;go_wp2;go_meet
     case rel=>exact⟨_,_,_,_,rfl,HT⟩
    --END
   case rest=>
    obtain⟨tb,k,c,l2,rfl,hT⟩:=hcut;obtain⟨wd,hwd⟩:∃W,W=wc:=⟨_,rfl⟩;subst hwd;have Xq:=af (hJ.out.keep.trans (hT.out.wrote.ag (n₀:=w.heap.size) hJ.out.keep.size (by have:=hJ.out.new.2.1;simp;omega)));have eF:=af (Below.refl wd.heap.size wd);obtain⟨x,hx⟩:=ae ((⟨dS k c,bo,bQ⟩:dE):dE);obtain⟨xc,cR⟩:=ae x.cells;obtain⟨kd,dP⟩:=ae (x.t.kind:Int);have ab0:Hid (ar wd tb xc.toArray 55):=af (by rw[<-cR,<-hx];exact hT.out.turn);have kc:Hid (∀W,ar W tb xc.toArray 55->W.cell? ⟨tb,0,none⟩=some (.int .i64 kd)):=af fun W hb=>by rw[hb.cell,<-cR,<-dP];rfl
    have hxt:Hid (x.t=dS k c):=af (by rw[<-hx]);replace dP:=af dP;replace cR:=af cR;replace hx:=af hx;clear yR;go_upto_region 6 with fail;go_cut [6,7]from 52 to 70 (fun s6 s7 wx=>∃(kb:Nat)(g1 g2 g3 g4:Value)(is:Bool),s6=.pointer (some ⟨kb,0,none⟩)/\s7=.bool is/\Hid (U5 wd tb xc.toArray x kb g1 g2 g3 g4 is wx))
    case first=>
     have vt:Below wd.heap.size wd wd.drew:=eF.drew;have rM:ar wd.drew tb xc.toArray 55:=ab0.out;refine aH [(1000,fun w'=>ar w' tb xc.toArray 55)] (by kernel_rfl) ⟨rM,trivial⟩ fun KQ aL=>?_;try simp only[PT]
     obtain⟨W5,Sv⟩:=ae wd.drew;rw[Sv]at vt rM ⊢;refine tQ [1] ?_;refine aG 2 rfl (by kernel_rfl) (by kernel_rfl) rfl rfl 0 rfl (by kernel_rfl) (.int .i64 kd) (fun w' hf=>by(have k0:=kc _ hf;go_simp<;>with_reducible rfl)) ?_;simp only[PT];refine dM [0,7] (fun j hj=>?_);have hj:j=0\/j=7:=by simpa using hj
     rcases hj with rfl | rfl
     ·refine⟨⟨_,rfl,by kernel_rfl,fun K hK=>?_⟩⟩;go_simp;refine(ng _).mono ?_;rintro e w6 ⟨m,c,rfl,hm,hc,fj⟩;have mI:=rM.ag fj;obtain⟨g1,g2,g3,g4,hg,aV,hsome⟩:=nY c kd;have rN:=vt.trans (fj.mono vt.size);refine hK _ _ ⟨⟨fun _=>mI,trivial⟩,?_⟩;clear hK K;try simp only[PT]
      refine fS [(1000,fun w'=>ar w' tb xc.toArray 55),(1000,fun w'=>IM .i64 w' m (df c))] (by simp) ⟨fun _=>mI,fun _=>hm,trivial⟩ ?_;refine gM 3 rfl (by kernel_rfl) (by kernel_rfl) rfl rfl rfl 1 rfl (by kernel_rfl) (.tuple #[.agg #[g1,g2,g3,g4],.bool (df c kd).isSome]) (fun w' hf=>(tM hf kd).trans (by rw[hg])) ?_;try simp only[PT]
      refine tQ [4,5,6] ?_;obtain⟨is,kO⟩:=ae ((df c kd).isSome);rw[kO];refine sQ 7 fun K hK=>?_;simp only[GO];go_simp;refine hK _ _ ⟨⟨fun _=>mI.alloc _,fun _=>hm.alloc _,trivial⟩,?_⟩;clear hK K;try simp only[PT]
      refine sQ 8 fun K hK=>?_;simp only[GO];refine wW 71 4 rfl w6.heap.size ri #[g1,g2,g3,g4] rfl rfl (ar.new _ _ _) rfl rfl aV fun w7 gZ gD=>?_;replace gD:ak [w6.heap.size] (w6.alloc (.cells ri 71)) w7:=gD;have zl:=rN.size;have Sw:(w6.alloc (.cells ri 71)).heap.size=w6.heap.size+1:=by simp
      have ou:=(rN.alloc rN.size (.cells ri 71)).trans (gD.ag (by omega) (by simp;omega));have vu:=(mI.alloc (.cells ri 71)).aw gD (by have:=mI.lt;simp;omega);have tJ:=gD.boxed (by have:=hc.lt;simp;omega) (hc.alloc (.cells ri 71));have DM:=(hm.alloc (.cells ri 71)).wrote gD (by have:=hm.lt;simp;omega);refine hK _ _ ⟨⟨fun _=>vu,fun _=>DM,trivial⟩,?_⟩;clear hK K;try simp only[PT]
      refine tQ [9] ?_;refine dQ (aL.out _ _ ?_);clear aL KQ;have hR:=af (show U5 wd tb xc.toArray x w6.heap.size g1 g2 g3 g4 is w7 from⟨ou,vu,gZ,fun h=>jS (by rw[dP.out];rw[<-kO]at h;exact Option.isSome_eq_false_iff.1 h |>Option.isNone_iff_eq_none.1),fun h=>⟨c,by rw[dP.out];exact hsome (by rw[kO,h]),tJ⟩⟩);go_wp2;go_meet
      case rel=>exact⟨_,_,_,_,_,_,rfl,rfl,hR⟩
     refine⟨⟨_,rfl,by kernel_rfl,fun K hK=>?_⟩⟩;go_simp;refine hK _ _ ⟨⟨fun _=>rM.alloc _,trivial⟩,?_⟩;clear hK K;try simp only[PT]
     refine sQ 0 fun K hK=>?_;simp only[GO];go_simp;refine(ng _).mono ?_;rintro e w6 ⟨m,c,rfl,hm,hc,fj⟩;have mI:=(rM.alloc (.cells ri 71)).ag fj;have DN:=(ar.new W5 ri 71).ag fj;obtain⟨g1,g2,g3,g4,hg,aV,hsome⟩:=nY c kd;have hs5:=vt.size;have FC:(W5.alloc (.cells ri 71)).heap.size=W5.heap.size+1:=by simp
     have rN:=(vt.alloc hs5 (.cells ri 71)).trans (fj.mono (by simp;omega));have Sx:W5.heap.size+1<=w6.heap.size:=by have:=fj.size;simpa using this
     refine hK _ _ ⟨⟨fun _=>mI,trivial⟩,?_⟩;clear hK K;try simp only[PT]
     refine fS [(1000,fun w'=>ar w' tb xc.toArray 55),(1000,fun w'=>IM .i64 w' m (df c))] (by simp) ⟨fun _=>mI,fun _=>hm,trivial⟩ ?_;refine gM 3 rfl (by kernel_rfl) (by kernel_rfl) rfl rfl rfl 1 rfl (by kernel_rfl) (.tuple #[.agg #[g1,g2,g3,g4],.bool (df c kd).isSome]) (fun w' hf=>(tM hf kd).trans (by rw[hg])) ?_;try simp only[PT]
     refine tQ [4,5,6] ?_;obtain⟨is,kO⟩:=ae ((df c kd).isSome);rw[kO];refine sQ 8 fun K hK=>?_;simp only[GO];have hne:m≠W5.heap.size:=fun h=>by obtain⟨es,cl,h1, -⟩:=hm;have h2:w6.heap[W5.heap.size]?=_:=DN;rw[h,h2]at h1;cases h1
     have N6:c≠W5.heap.size:=fun h=>by have h1:w6.heap[c]?=_:=hc;have h2:w6.heap[W5.heap.size]?=_:=DN;rw[h,h2]at h1;cases h1
     refine wW 71 4 rfl W5.heap.size ri #[g1,g2,g3,g4] rfl rfl DN rfl rfl aV fun w7 gZ gD=>?_;have ou:=rN.trans (gD.ag (by have:=rN.size;omega) (by simp;omega));have vu:=mI.aw gD (by have:=rM.lt;simp;omega);have tJ:=gD.boxed (by simpa using N6) hc;have DM:=hm.wrote gD (by simpa using hne);refine hK _ _ ⟨⟨fun _=>vu,fun _=>DM,trivial⟩,?_⟩;clear hK K;try simp only[PT]
     refine tQ [9] ?_;refine dQ (aL.out _ _ ?_);clear aL KQ;have hR:=af (show U5 wd tb xc.toArray x W5.heap.size g1 g2 g3 g4 is w7 from⟨ou,vu,gZ,fun h=>jS (by rw[dP.out];rw[<-kO]at h;exact Option.isSome_eq_false_iff.1 h |>Option.isNone_iff_eq_none.1),fun h=>⟨c,by rw[dP.out];exact hsome (by rw[kO,h]),tJ⟩⟩);go_wp2;go_meet
     case rel=>exact⟨_,_,_,_,_,_,rfl,rfl,hR⟩
    case rest=>
     obtain⟨kb,g1,g2,ZQ,g4,is,rfl,rfl,hK⟩:=hcut;obtain⟨we,ZR⟩:∃W,W=wc:=⟨_,rfl⟩;subst ZR;have HB6:=af (Xq.trans (hK.ag.mono Xq.size));have hxk:Hid (x.t.kind=k):=af (by rw[hxt];rfl);cases is with
     | false=>
      have hno:Hid (∀s,bh C false l=some s->¬bZ s):=af (eK (by
       obtain⟨r1,h1,h2⟩:=hT.out.Xk;unfold cw;rw[h1,Option.bind_some];dsimp only;rw[h2,Option.bind_some];exact Lx (by have h3:=hK.none rfl;rw[hxk]at h3;exact h3) _))
      have H:=af ((KW _ HB6.out).1.bad (C:=C) Io.out hno.out);clear eF;go_wp2_with (go_at_call 19;refine(CM _ _ _).mono ?_;rintro e w9 ⟨rfl,rfl⟩);exact⟨rfl,some 390,rfl,H.out,H.err⟩
     | true=>
      obtain⟨c',La,kI⟩:=hK.some rfl;rw[hxk]at La;obtain⟨r1,pQ,pR⟩:=hT.out.Xk;have Wx:19<=l.length:=by have e1:=nt pQ;have e2:=nt pR;have e3:=hJ.out.len;have e4:=hl0.out;omega
      obtain⟨f1,c1,f2,c2,f3,c3,f4,c4,hv,hf4,oN⟩:=hD Wx k c' _ La;simp only[Value.agg.injEq,Array.mk.injEq,List.cons.injEq,and_true]at hv;obtain⟨rfl,rfl,rfl,rfl⟩:=hv;have k3:we.cell? ⟨kb,3,none⟩=some (bG f4 c4):=hK.kind.cell 3;have xqE:=(hJ.out.JD.aw hT.out.wrote (by simp;omega)).ag hK.ag;have tE:ar we tb ((dS k c).cells bo bQ).toArray 55:=by have:=hK.turn;rw[<-cR.out,<-hx.out]at this;exact this
      have CR4:=af (oN we q p l2 tb c (hT.out.rd.ag hK.ag) tE (by have:=hT.out.new;omega));have hrt:=af (show cw C false l'=fB C false (dS k c) l2 by unfold cw;rw[pQ,Option.bind_some];dsimp only;rw[pR,Option.bind_some];rfl)
      unfold gY at hf4;unfold bG at k3;have hl2:=af (show l2.length<l'.length by have e1:=nt pQ;have e2:=nt pR;omega)
      have htn:=hT.out.new;clear eF oN pQ pR Wx kI La tE;go_wp2_with (first
       | (go_at_call 19;refine(CM _ _ _).mono ?_;rintro e w9 ⟨rfl,rfl⟩)
       | (refine wL 61 rfl rfl xqE underlying61 ?_))
      refine CR4.mono ?_;rintro e w7 ⟨gZ,QD⟩;have W6:=af (HB6.trans (gZ.ag (n₀:=w.heap.size) HB6.size (by have:=hJ.out.new.2.1;have:=hJ.out.keep.size;simp;omega)));rcases QD with⟨hno,rfl⟩ | ⟨y,l3,LA,rfl,hR7,hy7,hyn⟩
      ·have H:=af ((KW _ W6.out).1.bad (C:=C) Io.out (eK (by rw[hrt.out,hno])));exact⟨rfl,some 390,rfl,H.out,H.err⟩
      have hWt:Hid (ak [p,tb] wr w7):=af (((hT.out.wrote.sub (by simp)).trans (ak.aK hK.ag)).trans gZ);obtain⟨j1,j2,j3,j4,n1,n2,n3,m1,m2,m3⟩:=hJ.out.kept hWt.out htn;obtain⟨av,cv,rfl⟩:=aA hJ.out.row;have hyM:Hid (vx w7 y (b::B::p::ob::blk (.slice av ts.length cv))):=af (hyn _ (fun k hb=>by
       have z1:wr.heap.size<=we.heap.size:=Nat.le_trans hT.out.wrote.size hK.ag.size;simp only[List.mem_cons]at hb;rcases hb with rfl | rfl | rfl | rfl | hb
       ·have:=(KW _ hJ.out.keep).1.out.lt;omega
       ·have:=(KW _ hJ.out.keep).1.err.lt;omega
       ·omega
       ·have:=hJ.out.out.lt;omega
       have:=(hJ.out.row.lt k (bA.1 hb)).2;omega))
      have kv:w7.cell? ⟨ob,8,none⟩=some (.slice av ts.length cv):=j1.cell 8;have tx:Hid (ts.length<=65536):=af (by have:=hJ.out.len;have:=hl0.out;have:=Io.out;omega);have oy:=af (Tn.one y.t y.h y.hp);have hB7:=W6.size;have hq7:q<=w7.heap.size:=by have:=hWt.size;omega
      obtain⟨yc,eE⟩:=ae y.cells;have sy:yc.length=30:=by rw[<-eE];rfl
      have oy:Hid (∀u∈yc,u.oneCell'=true):=af (by rw[<-eE];exact fun u hu=>oy.out u (by simpa[dE.cells]using hu));rw[eE]at hy7;have iy:(prog.info? 55).map (·.size)=some yc.toArray.size:=by rw[List.size_toArray,sy];exact(by kernel_rfl:(prog.info? 55).map (·.size)=some 30)
      have j1':=af (j1.alloc (.cells yc.toArray 55));have j3':=af (aB j3 ((Below.refl _ w7).alloc ah (.cells yc.toArray 55)));have g7:=af (ar.new w7 yc.toArray 55);have sy':=af sy;replace tx:=af tx.out;have HQ7:=af hq7;have kg:=af m2;clear j1 j2 j3 j4 m1 m2 m3 n1 n2 n3 hyn gZ sy;go_wp2_with (first
       | (refine wL 55 rfl rfl hy7 underlying55 ?_ rfl rfl iy)
       | (refine wpList_plain rfl fun _ hK=>dF _ rfl FO (by decide) (by decide) (.agg yc.toArray) rfl (by rw[show(Value.agg yc.toArray).cells=yc.toArray from rfl,List.size_toArray,sy'.out]) (hK _ _ ?_))
       | (at_builtin;refine jM rfl _ _ rfl FO (by decide) q (.slice av ts.length cv) ts.length (ts.flatMap dE.cells) rfl j3'.out w7.heap.size yc 55 rfl g7.out sy'.out oy.out (by have:=tx.out;omega) (by have:=tx.out;omega) (by have:=HQ7.out;simp;omega) ?_;intro v' w9 nA Cg FQ;obtain⟨a9,c9,rfl⟩:=aA nA;have cC:ak (blk (.slice av ts.length cv)) (w7.alloc (.cells yc.toArray 55)) w9:=ak.ep Cg (fun u hu=>bA.2 hu);have j9:=j1'.aw cC kg.out;replace nA:=af nA;replace Cg:=af Cg;replace FQ:=af FQ;replace cC:=af cC)
       | (refine aq rfl 28 30 _ _ rfl (fun w=>by kernel_rfl) ob 8 (zu cf z6 (.slice av ts.length cv)) (.slice a9 (ts.length+1) c9) rfl rfl j9 (by simp[zu]) rfl rfl ?_;intro FD jq ik))
      have hgg:ak (blk (.slice av ts.length cv)) w7 w9:=(ak.alloc _ w7 (.cells yc.toArray 55)).trans cC.out;have HN:=af (hJ.out.next (tb:=tb) (y:=y) (l3:=l3) hWt.out htn (by rw[hrt.out];exact LA) hR7 hyM.out (by rw[eE];exact nA.out) hgg (fun k hk=>by
       rcases FQ.out k hk with h | h
       ·exact .inl h
       right;simp at h;omega) ik jq)
      have ug:=af (show l3.length<l'.length by have h1:=lz (C:=C) (u:=false) (l:=l') (r:=l3) (t:=y.t) (by rw[hrt.out];exact LA);omega);clear hgg j9 jq ik;try simp only[PT]
      go_roundw
      case rel=>exact⟨ts++[y],l3,_,HN⟩
      case measure=>rw[HN.rd.iY,hJ.out.rd.iY];exact ug.out
end
end Go.Proofs.YtkghejaimhoboaaGreatDoor
