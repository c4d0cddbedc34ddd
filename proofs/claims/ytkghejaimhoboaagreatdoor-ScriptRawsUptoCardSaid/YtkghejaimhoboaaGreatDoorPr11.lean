/- Parts of the proof of ScriptRaws. -/
import Derived.Test.YtkghejaimhoboaaGreatDoorPr09
import Derived.Deep.Cut
import Derived.ProofKit
import Derived.OpenShut
import Derived.Deep.Slices
set_option linter.unusedSimpArgs false
set_option linter.unusedVariables false
set_option maxRecDepth 100000
set_option maxHeartbeats 8000000
namespace Go.Proofs.YtkghejaimhoboaaGreatDoor
open Go.RowKit Go.Shelf Go.Proofs.Tryz
structure ActV where
 kind:Int
 qos:Int
 topic:List UInt8
 body:List UInt8
 retain:Bool
 pack:Int
 id:Int
def ActV.cells(x:ActV):Array Value:=#[.int .i64 x.kind,.int .i64 x.qos,.string ⟨x.topic.toArray⟩,.string ⟨x.body.toArray⟩,.bool x.retain,.int .i64 x.pack,.int .i64 x.id]
structure ActsAt (w:World)(a:Option Addr)(n cap:Nat)(xs:List ActV):Prop where
 len:xs.length=n
 le:n<=cap
 max:cap<=maxLen
 at':∀i x,xs[i]?=some x->∃g off,a=some ⟨g,off,none⟩/\g<w.heap.size/\w.rangeAt g (off+i*7) x.cells.toList
theorem range_below{w w':World}{g o:Nat}{cs:List Value}(h:w.rangeAt g o cs)(hg:g<w.heap.size)(hb:Below w.heap.size w w'):w'.rangeAt g o cs:=fun j v hj=>by have:=h j v hj;rw[<-this];exact hb.cell (p:=⟨g,o+j,none⟩) hg
theorem ActsAt.below{w w':World}{a:Option Addr}{n cap:Nat}{xs:List ActV}(h:ActsAt w a n cap xs)(hb:Below w.heap.size w w'):ActsAt w' a n cap xs:=
 ⟨h.len,h.le,h.max,fun i x hx=>by obtain⟨g,off,h1,h2,h3⟩:=h.at' i x hx;exact⟨g,off,h1,Nat.lt_of_lt_of_le h2 hb.size,range_below h3 h2 hb⟩⟩
structure Rg (l:List RowV)(q:Int):Prop where
 sorted:(l.map RowV.seq).Pairwise (· < ·)
 lt:∀r∈l,r.seq<q
 good:∀r∈l,(r.stage=1/\r.id=0)\/r.stage=2\/r.stage=3
theorem Rg.nil(q:Int):Rg [] q:=⟨List.Pairwise.nil,by simp,by simp⟩
theorem Rg.set{l:List RowV}{q:Int}(h:Rg l q){i:Nat}{r r':RowV}(hr:l[i]?=some r)(hs:r'.seq=r.seq)(hg:r'.stage=2\/r'.stage=3):Rg (l.set i r') q:=by
 have hm:=List.mem_of_getElem? hr;refine⟨?_,fun x hx=>?_,fun x hx=>?_⟩
 ·have:(l.set i r').map RowV.seq=l.map RowV.seq:=by
   rw[List.map_set,hs];apply List.ext_getElem?;intro j;by_cases hj:i=j
   ·subst hj;rw[List.getElem?_set_self'];simp[hr]
   rw[List.getElem?_set_ne hj]
  rw[this];exact h.sorted
 ·rcases List.mem_or_eq_of_mem_set hx with hx | rfl
  ·exact h.lt x hx
  rw[hs];exact h.lt r hm
 rcases List.mem_or_eq_of_mem_set hx with hx | rfl
 ·exact h.good x hx
 exact .inr hg
structure Wn (W R:Int)(s:OS):Prop where
 rg:Rg s.l s.seq
 win:s.window=W
 room:s.room=R
theorem Wn.send{W R:Int}{x:SS}(h:Wn W R x.s)(i:Nat):Wn W R (x.send i).s:=by
 unfold SS.send;split
 ·exact h
 split
 ·exact h
 rename_i r hr;exact⟨h.rg.set hr rfl (.inl rfl),h.win,h.room⟩
theorem Wn.sends{W R:Int}{x:SS}(h:Wn W R x.s)(q:List Nat):Wn W R (x.sends q).s:=by
 induction q generalizing x with
 | nil=>exact h
 | cons i q ih=>exact ih (h.send i)
section
open Go.RowKit Go.Shelf Go.Deep
variable {H:Type} {enc:TypeId×Value->H}
theorem cell_blk_lt{w:World}{b o:Nat}{v:Value}(h:w.cell? ⟨b,o,none⟩=some v):b<w.heap.size:=by
 rcases Nat.lt_or_ge b w.heap.size with h1 | h1
 ·exact h1
 unfold World.cell? at h;simp[Array.getElem?_eq_none h1]at h
end
def isR(a b:RowV):Bool:=
 if a.kind=b.kind then
  if a.kind=1 then decide (a.client=b.client)else if a.kind=2 then decide (a.client=b.client)&&decide (a.topic=b.topic)else if a.kind=3 then decide (a.client=b.client)&&decide (a.seq=b.seq)else decide (a.client=b.client)&&decide (a.id=b.id)
 else false
def kindOK(r:RowV):Prop:=r.kind=1\/r.kind=2\/r.kind=3\/r.kind=4
section
open Go.RowKit Go.Shelf Go.Deep
structure LsAt {α:Type}(f:α->List Value)(size:Nat)(w:World)(a:Option Addr)(n cap:Nat)(xs:List α):Prop where
 len:xs.length=n
 le:n<=cap
 max:cap<=maxLen
 at':∀i x,xs[i]?=some x->∃g off,a=some ⟨g,off,none⟩/\g<w.heap.size/\w.rangeAt g (off+i*size) (f x)
section
variable {α:Type} {f:α->List Value} {size:Nat} {w w':World} {a:Option Addr} {n cap:Nat} {xs:List α}
theorem LsAt.below(h:LsAt f size w a n cap xs)(hb:Below w.heap.size w w'):LsAt f size w' a n cap xs:=
 ⟨h.len,h.le,h.max,fun i x hx=>by obtain⟨g,off,h1,h2,h3⟩:=h.at' i x hx;exact⟨g,off,h1,Nat.lt_of_lt_of_le h2 hb.size,range_below h3 h2 hb⟩⟩
theorem LsAt.range(h:LsAt f size w a n cap xs){i:Nat}{x:α}(hx:xs[i]?=some x):∃g off,a=some ⟨g,off,none⟩/\∀W,Below w.heap.size w W->W.rangeAt g (off+i*size) (f x):=by obtain⟨g,off,ha,hg,hr⟩:=h.at' i x hx;exact⟨g,off,ha,fun W hb=>range_below hr hg hb⟩
theorem LsAt.nil(w:World):LsAt f size w none 0 0 []:=⟨rfl,Nat.le_refl _,Nat.zero_le _,fun i x hx=>by simp at hx⟩
theorem ls_of_own(hf:∀x,(f x).length=size){base c:Nat}{e:TypeId}(h:w.ownsRow base e size (.slice a n c) n (xs.flatMap f))(hl:xs.length=n):LsAt f size w a n c xs:=by
 have hat:=fun i x (hx:xs[i]?=some x)=>own_range f hf hl h (k:=i) (x:=x) hx;have hlt:=fun k=>h.lt k;obtain⟨h1,⟨he,h2⟩ | ⟨g,cap,cur,he,_,hg,hnc,hcm,_⟩⟩:=h
 ·cases he;have:xs=[]:=List.eq_nil_of_length_eq_zero (by omega);subst this;exact⟨rfl,by omega,by simp[maxLen],fun i x hx=>by simp at hx⟩
 cases he;refine⟨hl,hnc,hcm,fun i x hx=>?_⟩;obtain⟨g',ha,_,hr⟩:=hat i x hx;cases ha;refine⟨g,0,rfl,(hlt g rfl).2,?_⟩;rw[Nat.zero_add];exact hr
end
variable {H:Type} {enc:TypeId×Value->H}
theorem ls_of{α:Type}[Inhabited α](f:α->List Value){size:Nat}{T e:TypeId}(hT:prog.underlying T=some (.slice e))(hsz:prog.cellsOf e=size)(h0:0<size)(Q:α->Prop){w:World}{base:Nat}{held:Bool}
  (elem:∀{fuel:Nat}{cs:List Value}{x:DataW H×List MemPlace},DataW.trod enc prog w base (fun _=>true) held fuel e cs=some x->∃y:α,cs=f y/\Q y) {fuel:Nat} {cs:List Value} {x:DataW H×List MemPlace}
  (h:DataW.trod enc prog w base (fun _=>true) held fuel T cs=some x):∃a n cap xs,cs=[.slice a n cap]/\LsAt f size w a n cap xs/\∀y∈xs,Q y:=by
 rcases open_slice hT h with⟨hcs,_⟩ | ⟨a,len,cap,m,n,D,Pl,rfl,hb,hl,hm,hmm,_,hx⟩
 ·exact⟨none,0,0,[],hcs,LsAt.nil w,fun y hy=>by cases hy⟩
 simp only[if_true]at hmm;subst hmm;rw[hsz]at hx;have each:∀i,i<m->∃y:α,w.cells? base (a.add (i*size)) size=some (f y)/\Q y:=fun i hi=>by obtain⟨cs',h1,h2⟩:=hx i hi;obtain⟨y,rfl,hq⟩:=elem h2;exact⟨y,h1,hq⟩
 obtain⟨Y,hY⟩:=choose_lt each;refine⟨some a,len,m,(List.range len).map Y,rfl,⟨by simp,hl,hm,fun i y hy=>?_⟩,fun y hy=>?_⟩
 ·have hi:i<len:=by have:=(List.getElem?_eq_some_iff.1 hy).1;simpa using this
  have hy':Y i=y:=by simpa[hi]using hy
  have h1:=(hY i (by omega)).1;rw[hy']at h1;obtain⟨_,hlen,hcell⟩:=World.cells?_some h1;have hlf:(f y).length=size:=hlen;have hc0:=hcell 0 (by omega);rw[List.getElem?_eq_getElem (by omega)]at hc0;obtain⟨b,off,spot⟩:=a;have hspot:spot=none:=by obtain⟨_,hl0,hz⟩:=World.cells?_some (hY 0 (by omega)).1;have hl0':(f (Y 0)).length=size:=hl0;have hz0:=hz 0 (by omega);rw[List.getElem?_eq_getElem (by omega)]at hz0;have hz1:w.cell? (((⟨b,off,spot⟩:Addr).add (0*size)).add 0)=some ((f (Y 0))[0]'(by omega)):=hz0;rw[Nat.zero_mul]at hz1;exact World.cell?_spot hz1
  subst hspot;simp only[Addr.add_mid]at hcell hc0;refine⟨b,off,rfl,cell_blk_lt hc0,fun j v hj=>?_⟩;have hj7:j<size:=by have:=(List.getElem?_eq_some_iff.1 hj).1;omega
  rw[hcell j hj7];exact hj
 obtain⟨i,hi,rfl⟩:=List.mem_map.1 hy;exact(hY i (by have:=List.mem_range.1 hi;omega)).2
end
section
section
variable {P:Program} {w:World} {t e:TypeId} {z:Value} {size bytes:Nat}
end
def applyR(l:List RowV)(c:ChangeV):Option (List RowV):=
 let k:=idxOf (fun x=>isR x c.row) l
 if c.drop=true/\k<0 then none else some ((if 0<=k then l.eraseIdx k.toNat else l)++if c.drop=true then[]else[c.row])
def appliesR:List RowV->List ChangeV->Option (List RowV)
 | l,[]=>some l
 | l,c::cs=>(applyR l c).bind fun l'=>appliesR l' cs
theorem appliesR_append(cs ds:List ChangeV):∀l,appliesR l (cs++ds)=(appliesR l cs).bind fun l'=>appliesR l' ds:=by
 induction cs with
 | nil=>intro l;rfl
 |cons c cs ih=>
  intro l;simp only[List.cons_append,appliesR];cases applyR l c with
  | none=>rfl
  | some l'=>exact ih l'
theorem ChangeV.cllen(c:ChangeV):c.cells.length=10:=rfl
end
structure WantV where
 filter:List UInt8
 qos:Int
def WantV.cl(x:WantV):List Value:=[.string ⟨x.filter.toArray⟩,.int .i64 x.qos]
def iCl(z:Int):List Value:=[.int .i64 z]
def sCl(s:List UInt8):List Value:=[.string ⟨s.toArray⟩]
structure Pk where
 kind:Int
 dup:Bool
 retain:Bool
 qos:Int
 topic:List UInt8
 body:List UInt8
 id:Int
 client:List UInt8
 clean:Bool
 keep:Int
 hasWill:Bool
 will:WillV
 hasUser:Bool
 hasPass:Bool
 user:List UInt8
 pass:List UInt8
 present:Bool
 code:Int
 wants:List WantV
 codes:List Int
 filters:List (List UInt8)
structure Hd where
 a:Option Addr
 n:Nat
 c:Nat
structure H3 where
 w:Hd
 c:Hd
 f:Hd
def Pk.cells(p:Pk)(h:H3):List Value:=[.int .i64 p.kind,.bool p.dup,.bool p.retain,.int .i64 p.qos,.string ⟨p.topic.toArray⟩,.string ⟨p.body.toArray⟩,.int .i64 p.id,.string ⟨p.client.toArray⟩,.bool p.clean,.int .i64 p.keep,.bool p.hasWill,
 .string ⟨p.will.topic.toArray⟩,.string ⟨p.will.body.toArray⟩,.int .i64 p.will.qos,.bool p.will.retain,.bool p.hasUser,.bool p.hasPass,.string ⟨p.user.toArray⟩,.string ⟨p.pass.toArray⟩,.bool p.present,.int .i64 p.code,
 .slice h.w.a h.w.n h.w.c,.slice h.c.a h.c.n h.c.c,.slice h.f.a h.f.n h.f.c]
structure Pk.In (w:World)(p:Pk)(h:H3):Prop where
 lw:LsAt WantV.cl 2 w h.w.a h.w.n h.w.c p.wants
 lc:LsAt iCl 1 w h.c.a h.c.n h.c.c p.codes
 lf:LsAt sCl 1 w h.f.a h.f.n h.f.c p.filters
theorem Pk.In.below{w w':World}{p:Pk}{h:H3}(k:p.In w h)(hb:Below w.heap.size w w'):p.In w' h:=⟨k.lw.below hb,k.lc.below hb,k.lf.below hb⟩
structure Tn where
 kind:Int
 conn:Int
 pk:Pk
 bytes:List UInt8
 arm:Int
 n:Int
 picks:List Int
structure TnC where
 t:Tn
 h:H3
 hp:Hd
def Tn.cells(t:Tn)(h:H3)(hp:Hd):List Value:=[.int .i64 t.kind,.int .i64 t.conn,.int .i64 t.pk.kind,.bool t.pk.dup,.bool t.pk.retain,.int .i64 t.pk.qos,.string ⟨t.pk.topic.toArray⟩,.string ⟨t.pk.body.toArray⟩,.int .i64 t.pk.id,.string ⟨t.pk.client.toArray⟩,.bool t.pk.clean,.int .i64 t.pk.keep,.bool t.pk.hasWill,
 .string ⟨t.pk.will.topic.toArray⟩,.string ⟨t.pk.will.body.toArray⟩,.int .i64 t.pk.will.qos,.bool t.pk.will.retain,.bool t.pk.hasUser,.bool t.pk.hasPass,.string ⟨t.pk.user.toArray⟩,.string ⟨t.pk.pass.toArray⟩,.bool t.pk.present,.int .i64 t.pk.code,
 .slice h.w.a h.w.n h.w.c,.slice h.c.a h.c.n h.c.c,.slice h.f.a h.f.n h.f.c,.string ⟨t.bytes.toArray⟩,.int .i64 t.arm,.int .i64 t.n,.slice hp.a hp.n hp.c]
def TnC.cells(x:TnC):List Value:=x.t.cells x.h x.hp
theorem Tn.cells_eq(t:Tn)(h:H3)(hp:Hd):t.cells h hp=[.int .i64 t.kind,.int .i64 t.conn]++t.pk.cells h++[.string ⟨t.bytes.toArray⟩,.int .i64 t.arm,.int .i64 t.n,.slice hp.a hp.n hp.c]:=rfl
structure Tn.In (w:World)(t:Tn)(h:H3)(hp:Hd):Prop where
 pk:t.pk.In w h
 p:LsAt iCl 1 w hp.a hp.n hp.c t.picks
theorem Tn.In.below{w w':World}{t:Tn}{h:H3}{hp:Hd}(k:t.In w h hp)(hb:Below w.heap.size w w'):t.In w' h hp:=⟨k.pk.below hb,k.p.below hb⟩
structure CfV where
 window:Int
 room:Int
 inbox:Int
 subs:Int
 sessions:Int
 retained:Int
 secret:List UInt8
def CfV.cl(c:CfV):List Value:=[.int .i64 c.window,.int .i64 c.room,.int .i64 c.inbox,.int .i64 c.subs,.int .i64 c.sessions,.int .i64 c.retained,.string ⟨c.secret.toArray⟩]
structure Sc where
 cf:CfV
 pages:Int
 ts:List Tn
structure ScC where
 cf:CfV
 pages:Int
 ht:Hd
 ts:List TnC
def ScC.sc(s:ScC):Sc:=⟨s.cf,s.pages,s.ts.map TnC.t⟩
def ScC.cells(s:ScC):List Value:=[.int .i64 s.cf.window,.int .i64 s.cf.room,.int .i64 s.cf.inbox,.int .i64 s.cf.subs,.int .i64 s.cf.sessions,.int .i64 s.cf.retained,.string ⟨s.cf.secret.toArray⟩,.int .i64 s.pages,.slice s.ht.a s.ht.n s.ht.c]
structure ScC.In (w:World)(s:ScC):Prop where
 t:LsAt TnC.cells 30 w s.ht.a s.ht.n s.ht.c s.ts
 each:∀x∈s.ts,x.t.In w x.h x.hp
theorem ScC.In.below{w w':World}{p:ScC}(h:p.In w)(hb:Below w.heap.size w w'):p.In w':=⟨h.t.below hb,fun t ht=>(h.each t ht).below hb⟩
section
theorem idxOf_eraseP{α:Type}(p:α->Bool)(l:List α)(h:0<=idxOf p l):l.eraseIdx (idxOf p l).toNat=l.eraseP p:=by
 induction l with
 | nil=>rfl
 | cons x l ih=>
  unfold idxOf at h ⊢;by_cases hx:p x=true
  ·rw[if_pos hx];rw[List.eraseP_cons_of_pos hx];rfl
  rw[if_neg hx]at h ⊢;dsimp only at h ⊢;by_cases hr:idxOf p l<0
  ·rw[if_pos hr]at h;omega
  rw[if_neg hr]at h ⊢;rw[List.eraseP_cons_of_neg hx,<-ih (by omega),show(idxOf p l+1).toNat=(idxOf p l).toNat+1 by omega];rfl
theorem idxOf_pos{α:Type}(p:α->Bool)(l:List α)(x:α)(h:x∈l)(hx:p x=true):0<=idxOf p l:=by
 induction l with
 | nil=>cases h
 | cons y l ih=>
  unfold idxOf;by_cases hy:p y=true
  ·rw[if_pos hy];omega
  rw[if_neg hy];dsimp only;rcases List.mem_cons.1 h with rfl | h
  ·exact absurd hx hy
  have:=ih h;rw[if_neg (by omega)];omega
theorem applyR_there{R M:List RowV}{y:RowV}{c:ChangeV}(hp:R.Perm (y::M))(hy:isR y c.row=true)(hM:∀z∈M,isR z c.row=false):
  ∃R',applyR R c=some R'/\R'.Perm (M++if c.drop=true then[]else[c.row]):=by
 have h0:=idxOf_pos (fun x=>isR x c.row) R y (hp.mem_iff.2 (List.mem_cons_self ..)) hy;refine⟨_,by unfold applyR;dsimp only;rw[if_neg (by omega),if_pos h0],List.Perm.append_right _ ?_⟩;rw[idxOf_eraseP _ _ h0];have:=List.Perm.eraseP (fun x=>isR x c.row) (l₁:=y::M) (l₂:=R) (by
  refine List.Pairwise.cons (fun a ha _ h2=>?_) (List.pairwise_of_forall_mem_list fun a ha b _ h1 _=>?_)
  ·rw[hM a ha]at h2;cases h2
  rw[hM a ha]at h1;cases h1) hp.symm
 rw[List.eraseP_cons_of_pos (p:=fun x=>isR x c.row) hy]at this;exact this.symm
theorem isR_3(a b:RowV)(ha:a.kind=3)(hb:b.kind=3):isR a b=(decide (a.client=b.client)&&decide (a.seq=b.seq)):=by simp[isR,ha,hb]
theorem isR_ne(a b:RowV)(h:a.kind≠b.kind):isR a b=false:=by simp[isR,h]
theorem perm_erase{l:List RowV}{i:Nat}{r:RowV}(h:l[i]?=some r):l.Perm (r::l.eraseIdx i):=by
 induction l generalizing i with
 | nil=>simp at h
 |cons x l ih=>
  cases i with
  | zero=>simp at h;subst h;exact List.Perm.refl _
  | succ i=>simp at h;exact((ih h).cons x).trans (List.Perm.swap _ _ _)
theorem perm_set{l:List RowV}{i:Nat}{r:RowV}(r':RowV)(h:l[i]?=some r):(l.set i r').Perm (r'::l.eraseIdx i):=by
 have hlt:=(List.getElem?_eq_some_iff.1 h).1;have h1:(l.set i r')[i]?=some r':=by rw[List.getElem?_set_self hlt]
 have:=perm_erase h1
 rwa [List.eraseIdx_set_eq]at this
theorem seq_other{l:List RowV}(hn:(l.map RowV.seq).Nodup){i:Nat}{r:RowV}(h:l[i]?=some r):∀z∈l.eraseIdx i,z.seq≠r.seq:=by have:=((perm_erase h).map RowV.seq).nodup_iff.1 hn;rw[List.map_cons,List.nodup_cons]at this;intro z hz he;exact this.1 (he▸List.mem_map_of_mem hz)
theorem erase_mem{l:List RowV}{i:Nat}{z:RowV}(h:z∈l.eraseIdx i):z∈l:=(List.eraseIdx_sublist _ _).subset h
theorem ap_at{R l:List RowV}{se:RowV}(hp:R.Perm (se::l))(hs:se.kind=1)(hk:∀x∈l,x.kind=3)(hn:(l.map RowV.seq).Nodup){i:Nat}{r:RowV}(hi:l[i]?=some r)(c:ChangeV)(h3:c.row.kind=3)(hc:c.row.client=r.client)(hq:c.row.seq=r.seq):
  ∃R',applyR R c=some R'/\R'.Perm (se::(if c.drop=true then l.eraseIdx i else l.set i c.row)):=by
 have hr:=hk r (List.mem_of_getElem? hi);obtain⟨R',h1,h2⟩:=applyR_there (R:=R) (y:=r) (M:=se::l.eraseIdx i) (c:=c) (hp.trans (((perm_erase hi).cons se).trans (List.Perm.swap _ _ _))) (by rw[isR_3 _ _ hr h3];simp[hc,hq]) (fun z hz=>by
  rcases List.mem_cons.1 hz with rfl | hz
  ·exact isR_ne _ _ (by omega)
  rw[isR_3 _ _ (hk z (erase_mem hz)) h3,hq];simp[seq_other hn hi z hz])
 refine⟨R',h1,h2.trans ?_⟩;cases c.drop with
 | true=>simp
 |false=>show(se::l.eraseIdx i++[c.row]).Perm (se::l.set i c.row);exact(List.Perm.cons se ((List.perm_append_singleton _ _).trans (perm_set _ hi).symm))
def GRow(c:List UInt8)(r:RowV):Prop:=r.kind=3/\putMay r=true/\stageOK r/\r.client=c/\r.topic.length<=1000000
structure PI (W R:Int)(c:List UInt8)(R0:List RowV)(q0 i0:Int)(x:SS):Prop where
 wn:Wn W R x.s
 cl:x.s.client=c
 id:1<=x.s.id/\x.s.id<=65535
 row:∀r∈x.s.l,GRow c r
 ap:∃R',appliesR R0 x.cs=some R'/\R'.Perm (sessV c q0 i0::x.s.l)
 chg:∀ch∈x.cs,GRow c ch.row
theorem appliesR_snoc{R0 R1 R2:List RowV}{cs:List ChangeV}{c:ChangeV}(h1:appliesR R0 cs=some R1)(h2:applyR R1 c=some R2):appliesR R0 (cs++[c])=some R2:=by rw[appliesR_append,h1];show(applyR R1 c).bind _=_;rw[h2];rfl
theorem Rg.nodup{l:List RowV}{q:Int}(h:Rg l q):(l.map RowV.seq).Nodup:=h.sorted.imp fun h=>by omega
section
variable {W R:Int} {c:List UInt8} {R0:List RowV} {q0 i0:Int} {x:SS}
theorem PI.kind(h:PI W R c R0 q0 i0 x):∀r∈x.s.l,r.kind=3:=fun r hr=>(h.row r hr).1
theorem PI.step(h:PI W R c R0 q0 i0 x){i:Nat}{r:RowV}(hi:x.s.l[i]?=some r)(ch:ChangeV)(hg:GRow c ch.row)(hq:ch.row.seq=r.seq):
  ∃R',appliesR R0 (x.cs++[ch])=some R'/\R'.Perm (sessV c q0 i0::(if ch.drop=true then x.s.l.eraseIdx i else x.s.l.set i ch.row)):=by
 obtain⟨R',h1,h2⟩:=h.ap;obtain⟨R2,h3,h4⟩:=ap_at h2 rfl h.kind h.wn.rg.nodup hi ch hg.1 (by rw[hg.2.2.2.1,(h.row r (List.mem_of_getElem? hi)).2.2.2.1]) hq;exact⟨R2,appliesR_snoc h1 h3,h4⟩
theorem chg_snoc{cs:List ChangeV}(h:∀ch∈cs,GRow c ch.row)(d:ChangeV)(hd:GRow c d.row):∀ch∈cs++[d],GRow c ch.row:=fun ch hc=>by
 rcases List.mem_append.1 hc with hc | hc
 ·exact h ch hc
 simp at hc;subst hc;exact hd
theorem PI.set(h:PI W R c R0 q0 i0 x){i:Nat}{r:RowV}(hi:x.s.l[i]?=some r)(r':RowV)(hg:GRow c r')(hq:r'.seq=r.seq)(id':Int)(hid:1<=id'/\id'<=65535)(ps:List PackV)(hw:Wn W R {x.s with l:=x.s.l.set i r',id:=id'}):
  PI W R c R0 q0 i0 ⟨{x.s with l:=x.s.l.set i r',id:=id'},ps,x.cs++[⟨false,r'⟩]⟩:=
 ⟨hw,h.cl,hid,fun z hz=>(List.mem_or_eq_of_mem_set hz).elim (h.row z) (fun e=>e▸hg),by simpa using h.step hi ⟨false,r'⟩ hg hq,chg_snoc h.chg _ hg⟩
theorem PI.send(h:PI W R c R0 q0 i0 x)(i:Nat):PI W R c R0 q0 i0 (x.send i):=by
 have hw:=h.wn.send i;unfold SS.send at hw ⊢;split
 ·exact h
 rename_i hn;rw[if_neg hn]at hw;split
 ·exact h
 rename_i r hr;have hy:=firstI_range (idsOf x.s.l).length x.s.id (idsOf x.s.l) h.id;obtain⟨g1,g2,g3,g4,g5⟩:=h.row r (List.mem_of_getElem? hr);rw[hr]at hw;exact h.set hr _ (show GRow c (r.sent (firstI (idsOf x.s.l).length x.s.id (idsOf x.s.l)))from⟨g1,g2,.inr ⟨hy,.inl rfl⟩,g4,g5⟩) rfl _ (by omega) _ hw
theorem PI.sends(h:PI W R c R0 q0 i0 x)(q:List Nat):PI W R c R0 q0 i0 (x.sends q):=by
 induction q generalizing x with
 | nil=>exact h
 | cons i q ih=>exact ih (h.send i)
end
def CRow(c:List UInt8)(r:RowV):Prop:=GRow c r\/∃q i,r=sessV c q i/\sessMay (sessV c q i)=true/\1<=i/\i<=65535
section
variable {W R:Int} {c:List UInt8} {R0:List RowV} {s:OS}
end
end
theorem rev_ind{α:Type}{P:List α->Prop}(h0:P [])(hs:∀l a,P l->P (l++[a]))(l:List α):P l:=by
 have h:∀m:List α,P m.reverse:=fun m=>by
  induction m with
  | nil=>exact h0
  | cons a m ih=>rw[List.reverse_cons];exact hs _ _ ih
 rw[<-List.reverse_reverse l];exact h _
def beN(l:List UInt8):Nat:=l.foldl (fun n b=>n*256+b.toNat) 0
def numB(k:Nat)(n:Nat):List UInt8:=match k with
 | 0=>[]
 | k+1=>numB k (n / 256)++[UInt8.ofNat (n%256)]
def txtB(s:List UInt8):List UInt8:=numB 2 s.length++s
def rNum(k:Nat)(l:List UInt8):Option (Nat×List UInt8):=if l.length<k then none else some (beN (l.take k),l.drop k)
def rTxt(l:List UInt8):Option (List UInt8×List UInt8):=(rNum 2 l).bind fun x=>if x.2.length<x.1 then none else some (x.2.take x.1,x.2.drop x.1)
theorem beN_snoc(l:List UInt8)(b:UInt8):beN (l++[b])=beN l*256+b.toNat:=by simp[beN]
theorem numB_len(k n:Nat):(numB k n).length=k:=by
 induction k generalizing n with
 | zero=>rfl
 | succ k ih=>simp[numB,ih]
theorem u8_of(n:Nat)(h:n<256):(UInt8.ofNat n).toNat=n:=by simp[UInt8.toNat_ofNat'];omega
theorem beN_numB(k n:Nat)(h:n<256^k):beN (numB k n)=n:=by
 induction k generalizing n with
 | zero=>simp at h;subst h;rfl
 |succ k ih=>rw[numB,beN_snoc,ih (n / 256) (by rw[Nat.pow_succ]at h;omega),u8_of _ (Nat.mod_lt _ (by decide))];omega
theorem beN_lt(l:List UInt8):beN l<256^l.length:=by refine rev_ind (P:=fun l=>beN l<256^l.length) (by simp[beN]) (fun l b ih=>?_) l;rw[beN_snoc,List.length_append,List.length_singleton,Nat.pow_succ];have:=b.toNat_lt;omega
theorem numB_beN(l:List UInt8):numB l.length (beN l)=l:=by refine rev_ind (P:=fun l=>numB l.length (beN l)=l) rfl (fun l b ih=>?_) l;have hb:=b.toNat_lt;rw[beN_snoc,List.length_append,List.length_singleton,numB,show(beN l*256+b.toNat) / 256=beN l by omega,ih,show(beN l*256+b.toNat)%256=b.toNat by omega];simp
theorem rNum_numB(k n:Nat)(h:n<256^k)(r:List UInt8):rNum k (numB k n++r)=some (n,r):=by have hl:=numB_len k n;unfold rNum;rw[if_neg (by rw[List.length_append];omega),List.take_left' hl,List.drop_left' hl,beN_numB k n h]
theorem rNum_some{k:Nat}{l:List UInt8}{n:Nat}{r:List UInt8}(h:rNum k l=some (n,r)):l=numB k n++r/\n<256^k:=by
 unfold rNum at h;split at h
 ·cases h
 rename_i hl;simp only[Option.some.injEq,Prod.mk.injEq]at h;obtain⟨rfl,rfl⟩:=h;have ht:(l.take k).length=k:=by rw[List.length_take];omega
 have h1:=numB_beN (l.take k);have h2:=beN_lt (l.take k);rw[ht]at h1 h2;exact⟨by rw[h1,List.take_append_drop],h2⟩
theorem rTxt_txtB(s:List UInt8)(h:s.length<65536)(r:List UInt8):rTxt (txtB s++r)=some (s,r):=by unfold rTxt txtB;rw[List.append_assoc,rNum_numB 2 s.length (by simpa using h),Option.bind_some];dsimp only;rw[if_neg (by rw[List.length_append];omega),List.take_left' rfl,List.drop_left' rfl]
theorem rTxt_some{l s r:List UInt8}(h:rTxt l=some (s,r)):l=txtB s++r/\s.length<65536:=by
 unfold rTxt at h;cases hn:rNum 2 l with
 | none=>rw[hn]at h;cases h
 | some x=>
  obtain⟨n,t⟩:=x;rw[hn,Option.bind_some]at h;dsimp only at h;split at h
  ·cases h
  rename_i hl;simp only[Option.some.injEq,Prod.mk.injEq]at h;obtain⟨rfl,rfl⟩:=h;obtain⟨h1,h2⟩:=rNum_some hn;have ht:(t.take n).length=n:=by rw[List.length_take];omega
  refine⟨?_,by rw[ht];simpa using h2⟩;rw[h1];unfold txtB;rw[ht,List.append_assoc,List.take_append_drop]
end Go.Proofs.YtkghejaimhoboaaGreatDoor
