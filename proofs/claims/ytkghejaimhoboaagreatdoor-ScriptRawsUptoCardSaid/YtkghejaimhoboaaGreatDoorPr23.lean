/- Parts of the proof of ScriptRaws. -/
import Derived.Test.YtkghejaimhoboaaGreatDoorPr21
set_option linter.unusedSimpArgs false
set_option linter.unusedVariables false
set_option maxRecDepth 100000
set_option maxHeartbeats 8000000
namespace Go.Proofs.YtkghejaimhoboaaGreatDoor
open Go.RowKit Go.Shelf Go.Proofs.Tryz
section
attribute [local go_sem] Oper.semAt_some
theorem wp_insert_im{P:Program}{q:IntKind}{w:World}{b:Nat}{G:Int->Option Value}{o:Oper}{a:Act}{K:Act->World->Prop}{Q:Exit->Act->World->Prop}
  (m x v:Operand) (t:TypeId) (hop:o.op=Op.insert t m x v) (k e:TypeId) (ht:P.underlying t=some (.map k e)) (hk:P.underlying k=some (.int q)) (h:IM q w b G)
  (hm:a.eval m=.map (some b)) (n:Int) (val:Value) (hx:a.eval x=.int q n) (hv:a.eval v=val)
  (hK:∀w',IM q w' b (fun k=>if k=n then some val else G k)->w.grownBy w' (some b)->K (a.put o.dst undef) w'):o.wp P a w K Q:=by
 obtain⟨w',hrun,h1,h2⟩:=run_set_im t k e ht hk h n val;unfold Oper.wp;simp[execOp,hop,hm,hx,hv,hrun,Result.andThen];exact hK _ h1 h2
theorem wp_load_blk{P:Program}{w:World}{o:Oper}{a:Act}{K:Act->World->Prop}{Q:Exit->Act->World->Prop}{b:Nat}{cs:Array Value}{T:TypeId}(ty:TypeId)(x:Operand)(ho:o.op=.load ty x)(hx:a.eval x=.pointer (some ⟨b,0,none⟩))(hb:Blk w b cs T){d:TypeDesc}(hu:P.underlying ty=some d)(hd:d.isRow=true)(hi:(P.info? ty).map (·.size)=some cs.size)(h:K (a.put o.dst (.agg cs)) w):o.wp P a w K Q:=by have hr:=run_load_blk hb ty hu hd hi;unfold Oper.wp;simp[execOp,ho,hx,hr,Result.andThen];exact h
theorem wp_opq{P:Program}{o:Oper}{a:Act}{w:World}{K:Act->World->Prop}{Q:Exit->Act->World->Prop}(h:∀K':Act->World->Prop,(∀a' w',K a' w'->K' a' w')->o.wp P a w K' Q):o.wp P a w K Q:=h K fun _ _ h=>h
def empV:Array Value:=#[fnV 120 #[],fnV 121 #[],.nilFunc,.nilFunc,fnV 122 #[]]
def ackV:Array Value:=#[fnV 123 #[],fnV 125 #[],.nilFunc,fnV 126 #[],fnV 128 #[]]
def shpV(b:Nat->Nat)(k:Nat):Value:=
 if k=1 then .agg conV else if k=2 then .agg ackV else if k=3 then .agg pubV else if k<=11 then .agg (liV (b k))else .agg empV
def shapeG(b:Nat->Nat)(k:Int):Option Value:=if 1<=k/\k<=14 then some (shpV b k.toNat)else none
def liFl(k:Nat):Int:=if k=6\/k=8\/k=10 then 2 else 0
def liF(k:Nat):FuncId×FuncId×FuncId×FuncId:=
 if k=8 then(131,132,137,138)else if k=9 then(142,143,146,147)
 else if k=10 then(150,151,153,154)else(211,212,213,214)
def LiAt(b:Nat->Nat)(k:Nat)(w:World):Prop:=LiB (liFl k) (fnV (liF k).1 #[]) (fnV (liF k).2.1 #[]) (fnV (liF k).2.2.1 #[]) (fnV (liF k).2.2.2 #[]) (b k) w
structure ShapesAt (w:World)(m:Nat)(b:Nat->Nat):Prop where
 map:IM .i64 w m (shapeG b)
 box:∀k,4<=k->k<=11->LiAt b k w
def shFr(p1 p2 p3 p4 p5 e6 e7 c8 c9 c10:Value)(m:Nat)(b:Nat->Nat)(l:Nat->Bool):Act:=
 {tmps:=#[if l 30 then .map (some m)else .map none,p1,p2,p3,p4,p5,e6,e7,c8,c9,c10,if l 0 then .map (some m)else undef,if l 1 then shpV b 1 else undef,if l 3 then shpV b 2 else undef,if l 5 then shpV b 3 else undef,if l 7 then shpV b 4 else undef,if l 9 then shpV b 5 else undef,if l 11 then shpV b 6 else undef,if l 13 then shpV b 7 else undef,if l 15 then shpV b 8 else undef,if l 17 then shpV b 9 else undef,if l 19 then shpV b 10 else undef,if l 21 then shpV b 11 else undef,if l 23 then shpV b 12 else undef,if l 25 then shpV b 13 else undef,if l 27 then shpV b 14 else undef,if l 29 then .map (some m)else undef],defers:=[]}
structure ShB (p1 p2 p3 p4 p5:Nat)(b:Nat->Nat)(w:World):Prop where
 one:Blk w p1 empV 150
 two:Blk w p2 ackV 150
 three:Blk w p3 (liV (b 8)) 150
 four:Blk w p4 (liV (b 9)) 150
 five:Blk w p5 (liV (b 10)) 150
theorem ShB.below{p1 p2 p3 p4 p5:Nat}{b:Nat->Nat}{w w':World}(h:ShB p1 p2 p3 p4 p5 b w)(hb:Below w.heap.size w w'):ShB p1 p2 p3 p4 p5 b w':=⟨h.one.below hb,h.two.below hb,h.three.below hb,h.four.below hb,h.five.below hb⟩
def keyed(l:Nat->Bool)(b:Nat->Nat)(k:Int):Option Value:=if 1<=k/\k<=14/\l (2*k.toNat)=true then some (shpV b k.toNat)else none
structure OrdSh (l:Nat->Bool):Prop where
 ins:∀k,1<=k->k<=14->l (2*k)=true->l 0=true/\l (2*k-1)=true
 move:l 29=true->l 0=true
 asn:l 30=true->l 29=true
theorem OrdSh.step{l:Nat->Bool}(o:OrdSh l){i:Nat}(h1:∀k,1<=k->k<=14->i=2*k->l 0=true/\l (2*k-1)=true)(h2:i=29->l 0=true)(h3:i=30->l 29=true):OrdSh (fun j=>if j=i then true else l j):=by
 have up:∀j,l j=true->(if j=i then true else l j)=true:=fun j h=>by split<;>simp_all
 refine⟨fun k a b c=>?_,fun c=>?_,fun c=>?_⟩
 ·by_cases h:2*k=i
  ·exact⟨up _ (h1 k a b h.symm).1,up _ (h1 k a b h.symm).2⟩
  rw[if_neg h]at c;exact⟨up _ (o.ins k a b c).1,up _ (o.ins k a b c).2⟩
 ·by_cases h:29=i
  ·exact up _ (h2 h.symm)
  rw[if_neg h]at c;exact up _ (o.move c)
 by_cases h:30=i
 ·exact up _ (h3 h.symm)
 rw[if_neg h]at c;exact up _ (o.asn c)
theorem OrdSh.put{l:Nat->Bool}(o:OrdSh l){n:Nat}(hn:n<=14)(h0:l 0=true)(h1:l (2*n-1)=true):OrdSh (fun j=>if j=2*n then true else l j):=
 o.step (fun k _ _ e=>by
  obtain rfl:k=n:=by omega
  exact⟨h0,h1⟩) (fun e=>by omega) (fun e=>by omega)
structure ShI (w0:World)(p1 p2 p3 p4 p5:Nat)(e6 e7 c8 c9 c10:Value)(l:Nat->Bool)(a:Act)(w:World):Prop where
 out:∃m b,a=shFr (ptrV p1) (ptrV p2) (ptrV p3) (ptrV p4) (ptrV p5) e6 e7 c8 c9 c10 m b l/\(l 0=true->w0.heap.size<=m/\IM .i64 w m (keyed l b))/\(∀k,4<=k->k<=11->(8<=k/\k<=10)\/l (2*k-1)=true->LiAt b k w)/\ShB p1 p2 p3 p4 p5 b w
 below:Below w0.heap.size w0 w
 ord:OrdSh l
theorem keyed_odd{l:Nat->Bool}{b:Nat->Nat}{i:Nat}(hi:i%2=1):keyed (fun j=>if j=i then true else l j) b=keyed l b:=by
 funext k;unfold keyed;have h2:¬2*k.toNat=i:=by omega
 simp only[h2,if_false]
theorem im_boxed{q:IntKind}{w w':World}{m c:Nat}{G:Int->Option Value}{T:TypeId}{v:Value}(h:IM q w m G)(hb:Boxed w c T v)(hw:Wrote [m] w w'):Boxed w' c T v:=hw.boxed (by simp only[List.mem_singleton];rintro rfl;obtain⟨es,cl,h1, -⟩:=h;rw[show w.heap[c]?=_ from hb]at h1;cases h1) hb
theorem im_blk{q:IntKind}{w w':World}{m c:Nat}{G:Int->Option Value}{T:TypeId}{cs:Array Value}(h:IM q w m G)(hb:Blk w c cs T)(hw:Wrote [m] w w'):Blk w' c cs T:=hb.keepW hw (by simp only[List.mem_singleton];rintro rfl;obtain⟨es,cl,h1, -⟩:=h;rw[show w.heap[c]?=_ from hb]at h1;cases h1)
theorem LiAt.im{q:IntKind}{w w':World}{m:Nat}{G:Int->Option Value}{b:Nat->Nat}{k:Nat}(x:LiAt b k w)(h:IM q w m G)(hw:Wrote [m] w w'):LiAt b k w':=⟨im_boxed h x.fl hw,im_boxed h x.has hw,im_boxed h x.may hw,im_boxed h x.wr hw,im_boxed h x.rd hw⟩
theorem ShB.im{q:IntKind}{w w':World}{m:Nat}{G:Int->Option Value}{p1 p2 p3 p4 p5:Nat}{b:Nat->Nat}(x:ShB p1 p2 p3 p4 p5 b w)(h:IM q w m G)(hw:Wrote [m] w w'):ShB p1 p2 p3 p4 p5 b w':=⟨im_blk h x.one hw,im_blk h x.two hw,im_blk h x.three hw,im_blk h x.four hw,im_blk h x.five hw⟩
theorem keyed_put{l:Nat->Bool}{b:Nat->Nat}{n:Nat}(hn:1<=n/\n<=14):(fun k:Int=>if k=(n:Int)then some (shpV b n)else keyed l b k)=keyed (fun j=>if j=2*n then true else l j) b:=by
 funext k;unfold keyed;by_cases h:k=(n:Int)
 ·subst h;simp;omega
 rw[if_neg h];by_cases hk:1<=k/\k<=14
 ·have h2:¬2*k.toNat=2*n:=by omega
  simp[h2]
 rw[if_neg (fun x=>hk ⟨x.1,x.2.1⟩),if_neg (fun x=>hk ⟨x.1,x.2.1⟩)]
theorem wp_insert_sh{P:Program}{q:IntKind}{w:World}{m:Nat}{l:Nat->Bool}{b:Nat->Nat}{o:Oper}{a:Act}{K:Act->World->Prop}{Q:Exit->Act->World->Prop}
  (mo x v:Operand) (t:TypeId) (hop:o.op=Op.insert t mo x v) (k e:TypeId) (ht:P.underlying t=some (.map k e)) (hk:P.underlying k=some (.int q)) (h:IM q w m (keyed l b))
  (hm:a.eval mo=.map (some m)) {n:Nat} (hn:1<=n/\n<=14) (hx:a.eval x=.int q n) (hv:a.eval v=shpV b n)
  (hK:∀w',IM q w' m (keyed (fun j=>if j=2*n then true else l j) b)->w.grownBy w' (some m)->K (a.put o.dst undef) w'):o.wp P a w K Q:=
 wp_insert_im mo x v t hop k e ht hk h hm n _ hx hv fun w' h1 h2=>hK w' (by rw[<-keyed_put hn];exact h1) h2
theorem liV_one(b:Nat):∀v∈(liV b).toList,v.oneCell'=true:=by simp[liV,fnV,ptrV,Value.oneCell']
theorem keyed_none{l:Nat->Bool}(o:OrdSh l)(h:l 0=false)(b:Nat->Nat):keyed (fun j=>if j=0 then true else l j) b=fun _=>none:=by
 funext k;unfold keyed;refine if_neg fun⟨h1,h2,h3⟩=>?_;have h4:¬2*k.toNat=0:=by omega
 replace h3:(if 2*k.toNat=0 then true else l (2*k.toNat))=true:=h3;rw[if_neg h4]at h3;have h5:=(o.ins k.toNat (by omega) (by omega) h3).1;rw[h]at h5;cases h5
theorem keyed_hi{l:Nat->Bool}{b:Nat->Nat}{i:Nat}(hi:28<i):keyed (fun j=>if j=i then true else l j) b=keyed l b:=by
 funext k;unfold keyed;by_cases hk:1<=k/\k<=14
 ·have h2:¬2*k.toNat=i:=by omega
  simp only[h2,if_false]
 rw[if_neg (fun x=>hk ⟨x.1,x.2.1⟩),if_neg (fun x=>hk ⟨x.1,x.2.1⟩)]
theorem keyed_all{l:Nat->Bool}{b:Nat->Nat}(h:∀i,i<31->l i=true):keyed l b=shapeG b:=by
 funext k;unfold keyed shapeG;by_cases hk:1<=k/\k<=14
 ·rw[if_pos hk,if_pos ⟨hk.1,hk.2,h _ (by omega)⟩]
 rw[if_neg hk,if_neg (fun x=>hk ⟨x.1,x.2.1⟩)]
theorem keyed_at{l:Nat->Bool}{b:Nat->Nat}{n:Nat}(h:l (2*n)=false)(b':Nat):keyed l (fun j=>if j=n then b' else b j)=keyed l b:=by
 funext k;unfold keyed;by_cases hk:1<=k/\k<=14/\l (2*k.toNat)=true
 ·rw[if_pos hk,if_pos hk];have hn:k.toNat≠n:=fun e=>by rw[e,h]at hk;cases hk.2.2
  unfold shpV;simp only[hn,if_false]
 rw[if_neg hk,if_neg hk]
theorem pk_shapes(w:World):Calls prog 91 #[] w fun e w'=>∃m b,e=.returned (.map (some m))/\ShapesAt w' m b/\Below w.heap.size w w':=by
 obtain⟨W2,hW2⟩:=gen_of ((w.alloc (.cells empV 150)).alloc (.cells ackV 150));have hb2:Hid (Below w.heap.size w W2):=hid (by rw[<-hW2];exact((Below.refl _ w).alloc nat_le_rfl _).alloc (by simp) _);have x1:Hid (Blk W2 w.heap.size empV 150):=hid (by rw[<-hW2];exact(Blk.new _ _ _).alloc _);have x2:Hid (Blk W2 (w.heap.size+1) ackV 150):=hid (by rw[<-hW2];have h:=Blk.new (w.alloc (.cells empV 150)) ackV 150;rw[World.size_alloc]at h;exact h)
 have CL:=hid (fun fl f1 f2 f3 f4 W=>pk_list fl f1 f2 f3 f4 W);unfold empV ackV fnV at hW2;unfold fnV at CL;go_enter func91,ntmps91;go_wp2_with fail
 refine(CL _ _ _ _ _ _).mono ?_;rintro e w3 ⟨b8,hl8,rfl,hL8,hbw3⟩;obtain⟨c8,hc8⟩:=gen_of (liV b8);have hz8:Hid (c8.size=5):=hid (by rw[<-hc8];rfl);have ho8:Hid (∀v∈c8.toList,v.oneCell'=true):=hid (by rw[<-hc8];exact liV_one b8);rw[hc8];replace hc8:=hid hc8;replace hl8:=hid hl8;replace hL8:=hid hL8;replace hbw3:=hid hbw3;go_upto_region 4 with(refine wS 150 5 rfl _ _ c8 rfl rfl (Blk.new _ _ _) hz8.out rfl ho8.out ?_;intro w4 hww4 hrw4);have szw3:=hbw3.size;have bxw4:Below w3.heap.size w3 w4:=(bel_refl.alloc nat_le_rfl _).trans (hrw4.below (by simp) (by simp));have bww4:Below W2.heap.size W2 w4:=(hbw3.alloc szw3 _).trans (hrw4.below (by simp;omega) (by simp;omega));have hb4:=hid (hb2.trans (bww4.mono hb2.size));have hg8:=hid hww4;replace bww4:=hid bww4;replace bxw4:=hid bxw4;replace hrw4:=hid hrw4;clear hww4;try simp only[PT]
 go_wp2_with fail
 refine(CL _ _ _ _ _ _).mono ?_;rintro e w5 ⟨b9,hl9,rfl,hL9,hbw5⟩;obtain⟨c9,hc9⟩:=gen_of (liV b9);have hz9:Hid (c9.size=5):=hid (by rw[<-hc9];rfl);have ho9:Hid (∀v∈c9.toList,v.oneCell'=true):=hid (by rw[<-hc9];exact liV_one b9);rw[hc9];replace hc9:=hid hc9;replace hl9:=hid hl9;replace hL9:=hid hL9;replace hbw5:=hid hbw5;go_upto_region 5 with(refine wS 150 5 rfl _ _ c9 rfl rfl (Blk.new _ _ _) hz9.out rfl ho9.out ?_;intro w6 hww6 hrw6);have szw5:=hbw5.size;have bxw6:Below w5.heap.size w5 w6:=(bel_refl.alloc nat_le_rfl _).trans (hrw6.below (by simp) (by simp));have bww6:Below w4.heap.size w4 w6:=(hbw5.alloc szw5 _).trans (hrw6.below (by simp;omega) (by simp;omega));have hb6:=hid (hb4.trans (bww6.mono hb4.size));have hg9:=hid hww6;replace bww6:=hid bww6;replace bxw6:=hid bxw6;replace hrw6:=hid hrw6;clear hww6;try simp only[PT]
 go_wp2_with fail
 refine(CL _ _ _ _ _ _).mono ?_;rintro e w7 ⟨b10,hl10,rfl,hL10,hbw7⟩;obtain⟨c10,hc10⟩:=gen_of (liV b10);have hz10:Hid (c10.size=5):=hid (by rw[<-hc10];rfl);have ho10:Hid (∀v∈c10.toList,v.oneCell'=true):=hid (by rw[<-hc10];exact liV_one b10);rw[hc10];replace hc10:=hid hc10;replace hl10:=hid hl10;replace hL10:=hid hL10;replace hbw7:=hid hbw7;go_upto_region 6 with(refine wS 150 5 rfl _ _ c10 rfl rfl (Blk.new _ _ _) hz10.out rfl ho10.out ?_;intro w8 hww8 hrw8);have szw7:=hbw7.size;have bxw8:Below w7.heap.size w7 w8:=(bel_refl.alloc nat_le_rfl _).trans (hrw8.below (by simp) (by simp));have bww8:Below w6.heap.size w6 w8:=(hbw7.alloc szw7 _).trans (hrw8.below (by simp;omega) (by simp;omega));have hb8:=hid (hb6.trans (bww8.mono hb6.size));have hg10:=hid hww8;replace bww8:=hid bww8;replace bxw8:=hid bxw8;replace hrw8:=hid hrw8;clear hww8;try simp only[PT]
 obtain⟨p3,hp3⟩:=gen_of w3.heap.size;obtain⟨p4,hp4⟩:=gen_of w5.heap.size;obtain⟨p5,hp5⟩:=gen_of w7.heap.size;have q3:Blk w8 p3 c8 150:=by rw[<-hp3];exact(hg8.below bww6.out).below bww8.out
 have q4:Blk w8 p4 c9 150:=by rw[<-hp4];exact hg9.below bww8.out
 have q5:Blk w8 p5 c10 150:=by rw[<-hp5];exact hg10.out
 have bw28:=bww4.trans ((bww6.trans (bww8.mono bww6.size)).mono bww4.size);have y8:=hL8.below (bxw4.trans (((bww6.trans (bww8.mono bww6.size)).mono bxw4.size)));have y9:=hL9.below (bxw6.trans (bww8.mono bxw6.size));have y10:=hL10.below bxw8.out;refine wp_region_inv (ShI w w.heap.size (w.heap.size+1) p3 p4 p5 (.agg empV) (.agg ackV) (.agg c8) (.agg c9) (.agg c10)) (by kernel_rfl) (by kernel_rfl) ?_ ?_ ?_
 ·refine⟨⟨0,fun k=>if k=8 then b8 else if k=9 then b9 else b10,?_,?_,?_,?_⟩,?_,?_⟩
  ·change _=shFr _ _ _ _ _ _ _ _ _ _ _ _ (fun i=>decide (31<=i));simp[shFr,ptrV,hp3,hp4,hp5];exact⟨rfl,rfl⟩
  ·intro h;cases h
  ·intro k h4 h11 hk;have hk:k=8\/k=9\/k=10:=by
    rcases hk with hk | hk
    ·omega
    have hk:decide (31<=2*k-1)=true:=hk;rw[decide_eq_true_eq]at hk;omega
   have bd:Below w8.heap.size w8 w8.drew:=bel_refl.drew;rcases hk with rfl | rfl | rfl
   ·exact y8.below bd
   ·exact y9.below bd
   exact y10.below bd
  ·refine⟨?_,?_,?_,?_,?_⟩
   ·exact x1.below bw28.drew
   ·exact x2.below bw28.drew
   ·rw[show liV ((fun k=>if k=8 then b8 else if k=9 then b9 else b10) 8)=c8 from hc8.out];exact q3
   ·rw[show liV ((fun k=>if k=8 then b8 else if k=9 then b9 else b10) 9)=c9 from hc9.out];exact q4
   rw[show liV ((fun k=>if k=8 then b8 else if k=9 then b9 else b10) 10)=c10 from hc10.out];exact q5
  ·exact hb8.drew
  refine⟨fun k h1 h2 h=>?_,fun h=>?_,fun h=>?_⟩
  ·have h:decide (31<=2*k)=true:=h;rw[decide_eq_true_eq]at h;omega
  ·cases h
  cases h
 ·intro l a W i hI hi hl hr;have hi:i<31:=hi;obtain⟨⟨m,b,rfl,hm,hli,hsb⟩,hbe,hord⟩:=hI;rcases Classical.em (1<=i / 2/\i / 2<=14/\i%2=0)with hn1 | hn1
  ·obtain⟨n,hn,rfl⟩:∃n,(1<=n/\n<=14)/\i=2*n:=⟨i / 2,by omega,by omega⟩;clear hn1;rcases(show n=1\/n=2\/n=3\/n=4\/n=5\/n=6\/n=7\/n=8\/n=9\/n=10\/n=11\/n=12\/n=13\/n=14 by omega)with rfl | rfl | rfl | rfl | rfl | rfl | rfl | rfl | rfl | rfl | rfl | rfl | rfl | rfl
   all_goals
    have h:=hr _ rfl;simp[Region.binds]at h;obtain⟨h0,h1⟩:=h;refine⟨⟨_,rfl,by kernel_rfl,?_⟩⟩;refine wp_insert_sh _ _ _ 152 rfl 45 150 underlying152 underlying45 (hm h0).2 (by simp[shFr,Act.eval,h0]) hn rfl (by simp[shFr,Act.eval,h1]) fun w' hm' hg=>?_;have hw:Wrote [m] W w':=Wrote.of_grown hg (fun k hk=>by cases hk;simp);refine⟨⟨m,b,by simp[shFr,Act.put],fun _=>⟨(hm h0).1,hm'⟩,fun k h4 h11 hk=>?_,hsb.im (hm h0).2 hw⟩,hbe.trans (hw.below hbe.size (by have:=(hm h0).1;simpa using this)),hord.put hn.2 h0 h1⟩;exact(hli k h4 h11 (hk.imp id fun h=>by rw[if_neg (by omega)]at h;exact h)).im (hm h0).2 hw
  have hcase:i=3\/i=15\/i=17\/i=19\/i=23\/i=25\/i=27\/¬(i=3\/i=15\/i=17\/i=19\/i=23\/i=25\/i=27):=by omega
  rcases hcase with rfl | rfl | rfl | rfl | rfl | rfl | rfl | hn2
  ·refine⟨⟨_,rfl,by kernel_rfl,?_⟩⟩;refine wp_load_blk 150 _ rfl (by simp[shFr,Act.eval,ptrV]) hsb.two underlying150 rfl (by kernel_rfl) ?_;refine⟨⟨m,b,by simp[shFr,Act.put,shpV],fun h=>?_,fun k h4 h11 hk=>hli k h4 h11 ?_,hsb⟩,hbe,hord.step (fun k _ _ e=>absurd e (by omega)) (fun e=>absurd e (by decide)) (fun e=>absurd e (by decide))⟩
   ·rw[keyed_odd (by decide)];exact hm (by simpa using h)
   rcases hk with hk | hk
   ·exact .inl hk
   by_cases h7:2*k-1=3
   ·exact .inl (by omega)
   rw[if_neg h7]at hk;exact .inr hk
  ·refine⟨⟨_,rfl,by kernel_rfl,?_⟩⟩;refine wp_load_blk 150 _ rfl (by simp[shFr,Act.eval,ptrV]) hsb.three underlying150 rfl (by kernel_rfl) ?_;refine⟨⟨m,b,by simp[shFr,Act.put,shpV],fun h=>?_,fun k h4 h11 hk=>hli k h4 h11 ?_,hsb⟩,hbe,hord.step (fun k _ _ e=>absurd e (by omega)) (fun e=>absurd e (by decide)) (fun e=>absurd e (by decide))⟩
   ·rw[keyed_odd (by decide)];exact hm (by simpa using h)
   rcases hk with hk | hk
   ·exact .inl hk
   by_cases h7:2*k-1=15
   ·exact .inl (by omega)
   rw[if_neg h7]at hk;exact .inr hk
  ·refine⟨⟨_,rfl,by kernel_rfl,?_⟩⟩;refine wp_load_blk 150 _ rfl (by simp[shFr,Act.eval,ptrV]) hsb.four underlying150 rfl (by kernel_rfl) ?_;refine⟨⟨m,b,by simp[shFr,Act.put,shpV],fun h=>?_,fun k h4 h11 hk=>hli k h4 h11 ?_,hsb⟩,hbe,hord.step (fun k _ _ e=>absurd e (by omega)) (fun e=>absurd e (by decide)) (fun e=>absurd e (by decide))⟩
   ·rw[keyed_odd (by decide)];exact hm (by simpa using h)
   rcases hk with hk | hk
   ·exact .inl hk
   by_cases h7:2*k-1=17
   ·exact .inl (by omega)
   rw[if_neg h7]at hk;exact .inr hk
  ·refine⟨⟨_,rfl,by kernel_rfl,?_⟩⟩;refine wp_load_blk 150 _ rfl (by simp[shFr,Act.eval,ptrV]) hsb.five underlying150 rfl (by kernel_rfl) ?_;refine⟨⟨m,b,by simp[shFr,Act.put,shpV],fun h=>?_,fun k h4 h11 hk=>hli k h4 h11 ?_,hsb⟩,hbe,hord.step (fun k _ _ e=>absurd e (by omega)) (fun e=>absurd e (by decide)) (fun e=>absurd e (by decide))⟩
   ·rw[keyed_odd (by decide)];exact hm (by simpa using h)
   rcases hk with hk | hk
   ·exact .inl hk
   by_cases h7:2*k-1=19
   ·exact .inl (by omega)
   rw[if_neg h7]at hk;exact .inr hk
  ·refine⟨⟨_,rfl,by kernel_rfl,?_⟩⟩;refine wp_load_blk 150 _ rfl (by simp[shFr,Act.eval,ptrV]) hsb.one underlying150 rfl (by kernel_rfl) ?_;refine⟨⟨m,b,by simp[shFr,Act.put,shpV],fun h=>?_,fun k h4 h11 hk=>hli k h4 h11 ?_,hsb⟩,hbe,hord.step (fun k _ _ e=>absurd e (by omega)) (fun e=>absurd e (by decide)) (fun e=>absurd e (by decide))⟩
   ·rw[keyed_odd (by decide)];exact hm (by simpa using h)
   rcases hk with hk | hk
   ·exact .inl hk
   by_cases h7:2*k-1=23
   ·exact .inl (by omega)
   rw[if_neg h7]at hk;exact .inr hk
  ·refine⟨⟨_,rfl,by kernel_rfl,?_⟩⟩;refine wp_load_blk 150 _ rfl (by simp[shFr,Act.eval,ptrV]) hsb.one underlying150 rfl (by kernel_rfl) ?_;refine⟨⟨m,b,by simp[shFr,Act.put,shpV],fun h=>?_,fun k h4 h11 hk=>hli k h4 h11 ?_,hsb⟩,hbe,hord.step (fun k _ _ e=>absurd e (by omega)) (fun e=>absurd e (by decide)) (fun e=>absurd e (by decide))⟩
   ·rw[keyed_odd (by decide)];exact hm (by simpa using h)
   rcases hk with hk | hk
   ·exact .inl hk
   by_cases h7:2*k-1=25
   ·exact .inl (by omega)
   rw[if_neg h7]at hk;exact .inr hk
  ·refine⟨⟨_,rfl,by kernel_rfl,?_⟩⟩;refine wp_load_blk 150 _ rfl (by simp[shFr,Act.eval,ptrV]) hsb.one underlying150 rfl (by kernel_rfl) ?_;refine⟨⟨m,b,by simp[shFr,Act.put,shpV],fun h=>?_,fun k h4 h11 hk=>hli k h4 h11 ?_,hsb⟩,hbe,hord.step (fun k _ _ e=>absurd e (by omega)) (fun e=>absurd e (by decide)) (fun e=>absurd e (by decide))⟩
   ·rw[keyed_odd (by decide)];exact hm (by simpa using h)
   rcases hk with hk | hk
   ·exact .inl hk
   by_cases h7:2*k-1=27
   ·exact .inl (by omega)
   rw[if_neg h7]at hk;exact .inr hk
  have hcase:i=1\/i=5\/¬(i=1\/i=5):=by omega
  rcases hcase with rfl | rfl | hn3
  ·refine⟨⟨_,rfl,by kernel_rfl,wp_opq fun K hK=>?_⟩⟩;go_simp;refine(pk_connect W).mono ?_;rintro e w' ⟨rfl,hb⟩;refine hK _ _ ?_;refine⟨⟨m,b,by simp[shFr,Act.put,shpV],fun h=>?_,fun k h4 h11 hk=>LiB.below (hli k h4 h11 ?_) hb,hsb.below hb⟩,hbe.trans (hb.mono hbe.size),hord.step (fun k _ _ e=>absurd e (by omega)) (fun e=>absurd e (by decide)) (fun e=>absurd e (by decide))⟩
   ·rw[keyed_odd (by decide)];have h8:=hm (by simpa using h);exact⟨h8.1,h8.2.below hb⟩
   rcases hk with hk | hk
   ·exact .inl hk
   by_cases h7:2*k-1=1
   ·omega
   rw[if_neg h7]at hk;exact .inr hk
  ·refine⟨⟨_,rfl,by kernel_rfl,wp_opq fun K hK=>?_⟩⟩;go_simp;refine(pk_publish W).mono ?_;rintro e w' ⟨rfl,hb⟩;refine hK _ _ ?_;refine⟨⟨m,b,by simp[shFr,Act.put,shpV],fun h=>?_,fun k h4 h11 hk=>LiB.below (hli k h4 h11 ?_) hb,hsb.below hb⟩,hbe.trans (hb.mono hbe.size),hord.step (fun k _ _ e=>absurd e (by omega)) (fun e=>absurd e (by decide)) (fun e=>absurd e (by decide))⟩
   ·rw[keyed_odd (by decide)];have h8:=hm (by simpa using h);exact⟨h8.1,h8.2.below hb⟩
   rcases hk with hk | hk
   ·exact .inl hk
   by_cases h7:2*k-1=5
   ·omega
   rw[if_neg h7]at hk;exact .inr hk
  have hcase:i=0\/i=7\/i=9\/i=11\/i=13\/i=21\/i=29\/i=30:=by omega
  rcases hcase with rfl | rfl | rfl | rfl | rfl | rfl | rfl | rfl
  ·have hl29:l 29=false:=by
    cases h:l 29 with
    | false=>rfl
    | true=>have:=hord.move h;rw[hl]at this;cases this
   have hl30:l 30=false:=by
    cases h:l 30 with
    | false=>rfl
    | true=>have:=hord.asn h;rw[hl29]at this;cases this
   have hmm:= @run_makeMap prog;refine⟨⟨_,rfl,by kernel_rfl,wp_opq fun K hK=>?_⟩⟩;go_simp;refine hK _ _ ?_;have hb:Below W.heap.size W (W.alloc (.map #[] 0)):=(Below.refl _ W).alloc nat_le_rfl _;refine⟨⟨W.heap.size,b,by simp[shFr,Act.put,hl29,hl30],fun _=>⟨hbe.size,?_⟩,fun k h4 h11 hk=>LiB.below (hli k h4 h11 (hk.imp id fun h=>by
    have h9:¬2*k-1=0:=by omega
    rw[if_neg h9]at h;exact h)) hb,hsb.below hb⟩,hbe.trans (hb.mono hbe.size),hord.step (fun k _ _ e=>absurd e (by omega)) (fun e=>absurd e (by decide)) (fun e=>absurd e (by decide))⟩
   rw[keyed_none hord hl];exact IM.new W
  ·have h7:l (2*4)=false:=by
    cases h:l (2*4)with
    | false=>rfl
    | true=>have:=(hord.ins 4 (by decide) (by decide) h).2;rw[show 2*4-1=7 from rfl,hl]at this;cases this
   refine⟨⟨_,rfl,by kernel_rfl,wp_opq fun K hK=>?_⟩⟩;go_simp;refine(pk_answer 0 W).mono ?_;rintro e w' ⟨b',hb',rfl,hL,hb⟩;refine hK _ _ ?_;refine⟨⟨m,fun j=>if j=4 then b' else b j,by simp[shFr,Act.put,shpV],fun h=>?_,fun k h4 h11 hk=>?_,?_⟩,hbe.trans (hb.mono hbe.size),hord.step (fun k _ _ e=>absurd e (by omega)) (fun e=>absurd e (by decide)) (fun e=>absurd e (by decide))⟩
   ·rw[keyed_odd (by decide),keyed_at h7];have h8:=hm (by simpa using h);exact⟨h8.1,h8.2.below hb⟩
   ·by_cases hkk:k=4
    ·subst hkk;exact hL
    have hx:LiAt b k w':=(hli k h4 h11 (hk.imp id fun h=>by
     have h9:¬2*k-1=7:=by omega
     rw[if_neg h9]at h;exact h)).below hb
    show LiB (liFl k) _ _ _ _ (if k=4 then b' else b k) w';rw[if_neg hkk];exact hx
   have x:=hsb.below hb;exact⟨x.one,x.two,x.three,x.four,x.five⟩
  ·have h7:l (2*5)=false:=by
    cases h:l (2*5)with
    | false=>rfl
    | true=>have:=(hord.ins 5 (by decide) (by decide) h).2;rw[show 2*5-1=9 from rfl,hl]at this;cases this
   refine⟨⟨_,rfl,by kernel_rfl,wp_opq fun K hK=>?_⟩⟩;go_simp;refine(pk_answer 0 W).mono ?_;rintro e w' ⟨b',hb',rfl,hL,hb⟩;refine hK _ _ ?_;refine⟨⟨m,fun j=>if j=5 then b' else b j,by simp[shFr,Act.put,shpV],fun h=>?_,fun k h4 h11 hk=>?_,?_⟩,hbe.trans (hb.mono hbe.size),hord.step (fun k _ _ e=>absurd e (by omega)) (fun e=>absurd e (by decide)) (fun e=>absurd e (by decide))⟩
   ·rw[keyed_odd (by decide),keyed_at h7];have h8:=hm (by simpa using h);exact⟨h8.1,h8.2.below hb⟩
   ·by_cases hkk:k=5
    ·subst hkk;exact hL
    have hx:LiAt b k w':=(hli k h4 h11 (hk.imp id fun h=>by
     have h9:¬2*k-1=9:=by omega
     rw[if_neg h9]at h;exact h)).below hb
    show LiB (liFl k) _ _ _ _ (if k=5 then b' else b k) w';rw[if_neg hkk];exact hx
   have x:=hsb.below hb;exact⟨x.one,x.two,x.three,x.four,x.five⟩
  ·have h7:l (2*6)=false:=by
    cases h:l (2*6)with
    | false=>rfl
    | true=>have:=(hord.ins 6 (by decide) (by decide) h).2;rw[show 2*6-1=11 from rfl,hl]at this;cases this
   refine⟨⟨_,rfl,by kernel_rfl,wp_opq fun K hK=>?_⟩⟩;go_simp;refine(pk_answer 2 W).mono ?_;rintro e w' ⟨b',hb',rfl,hL,hb⟩;refine hK _ _ ?_;refine⟨⟨m,fun j=>if j=6 then b' else b j,by simp[shFr,Act.put,shpV],fun h=>?_,fun k h4 h11 hk=>?_,?_⟩,hbe.trans (hb.mono hbe.size),hord.step (fun k _ _ e=>absurd e (by omega)) (fun e=>absurd e (by decide)) (fun e=>absurd e (by decide))⟩
   ·rw[keyed_odd (by decide),keyed_at h7];have h8:=hm (by simpa using h);exact⟨h8.1,h8.2.below hb⟩
   ·by_cases hkk:k=6
    ·subst hkk;exact hL
    have hx:LiAt b k w':=(hli k h4 h11 (hk.imp id fun h=>by
     have h9:¬2*k-1=11:=by omega
     rw[if_neg h9]at h;exact h)).below hb
    show LiB (liFl k) _ _ _ _ (if k=6 then b' else b k) w';rw[if_neg hkk];exact hx
   have x:=hsb.below hb;exact⟨x.one,x.two,x.three,x.four,x.five⟩
  ·have h7:l (2*7)=false:=by
    cases h:l (2*7)with
    | false=>rfl
    | true=>have:=(hord.ins 7 (by decide) (by decide) h).2;rw[show 2*7-1=13 from rfl,hl]at this;cases this
   refine⟨⟨_,rfl,by kernel_rfl,wp_opq fun K hK=>?_⟩⟩;go_simp;refine(pk_answer 0 W).mono ?_;rintro e w' ⟨b',hb',rfl,hL,hb⟩;refine hK _ _ ?_;refine⟨⟨m,fun j=>if j=7 then b' else b j,by simp[shFr,Act.put,shpV],fun h=>?_,fun k h4 h11 hk=>?_,?_⟩,hbe.trans (hb.mono hbe.size),hord.step (fun k _ _ e=>absurd e (by omega)) (fun e=>absurd e (by decide)) (fun e=>absurd e (by decide))⟩
   ·rw[keyed_odd (by decide),keyed_at h7];have h8:=hm (by simpa using h);exact⟨h8.1,h8.2.below hb⟩
   ·by_cases hkk:k=7
    ·subst hkk;exact hL
    have hx:LiAt b k w':=(hli k h4 h11 (hk.imp id fun h=>by
     have h9:¬2*k-1=13:=by omega
     rw[if_neg h9]at h;exact h)).below hb
    show LiB (liFl k) _ _ _ _ (if k=7 then b' else b k) w';rw[if_neg hkk];exact hx
   have x:=hsb.below hb;exact⟨x.one,x.two,x.three,x.four,x.five⟩
  ·have h7:l (2*11)=false:=by
    cases h:l (2*11)with
    | false=>rfl
    | true=>have:=(hord.ins 11 (by decide) (by decide) h).2;rw[show 2*11-1=21 from rfl,hl]at this;cases this
   refine⟨⟨_,rfl,by kernel_rfl,wp_opq fun K hK=>?_⟩⟩;go_simp;refine(pk_answer 0 W).mono ?_;rintro e w' ⟨b',hb',rfl,hL,hb⟩;refine hK _ _ ?_;refine⟨⟨m,fun j=>if j=11 then b' else b j,by simp[shFr,Act.put,shpV],fun h=>?_,fun k h4 h11 hk=>?_,?_⟩,hbe.trans (hb.mono hbe.size),hord.step (fun k _ _ e=>absurd e (by omega)) (fun e=>absurd e (by decide)) (fun e=>absurd e (by decide))⟩
   ·rw[keyed_odd (by decide),keyed_at h7];have h8:=hm (by simpa using h);exact⟨h8.1,h8.2.below hb⟩
   ·by_cases hkk:k=11
    ·subst hkk;exact hL
    have hx:LiAt b k w':=(hli k h4 h11 (hk.imp id fun h=>by
     have h9:¬2*k-1=21:=by omega
     rw[if_neg h9]at h;exact h)).below hb
    show LiB (liFl k) _ _ _ _ (if k=11 then b' else b k) w';rw[if_neg hkk];exact hx
   have x:=hsb.below hb;exact⟨x.one,x.two,x.three,x.four,x.five⟩
  ·have h:=hr _ rfl;simp[Region.binds]at h;have h0:=h.1;clear h;refine⟨⟨_,rfl,by kernel_rfl,wp_opq fun K hK=>?_⟩⟩;go_simp;refine hK _ _ ?_;refine⟨⟨m,b,by simp[shFr,Act.put,Act.eval,h0],fun _=>by rw[keyed_hi (by decide)];exact hm h0,fun k h4 h11 hk=>hli k h4 h11 (hk.imp id fun h=>by
    have h9:¬2*k-1=29:=by omega
    rw[if_neg h9]at h;exact h),hsb⟩,hbe,hord.step (fun k _ _ e=>absurd e (by omega)) (fun _=>h0) (fun e=>absurd e (by decide))⟩
  have h:=hr _ rfl;simp[Region.binds]at h;have h29:=h.1;have h0:=hord.move h29;clear h;refine⟨⟨_,rfl,by kernel_rfl,wp_opq fun K hK=>?_⟩⟩;go_simp;refine hK _ _ ?_;refine⟨⟨m,b,by simp[shFr,Act.put,Act.eval,h29],fun _=>by rw[keyed_hi (by decide)];exact hm h0,fun k h4 h11 hk=>hli k h4 h11 (hk.imp id fun h=>by
   have h9:¬2*k-1=30:=by omega
   rw[if_neg h9]at h;exact h),hsb⟩,hbe,hord.step (fun k _ _ e=>absurd e (by omega)) (fun e=>absurd e (by decide)) (fun _=>h29)⟩
 intro l a W hall hI;obtain⟨⟨m,b,rfl,hm,hli,hsb⟩,hbe,hord⟩:=hI;have hh:∀i,i<31->l i=true:=fun i hi=>hall i hi;have hmm:=(hm (hh 0 (by decide))).2;rw[keyed_all hh]at hmm;have H:Hid (ShapesAt W m b):=hid ⟨hmm,fun k h4 h11=>hli k h4 h11 (.inr (hh _ (by omega)))⟩;replace hbe:=hid hbe;unfold shFr;rw[if_pos (hh 30 (by decide))];generalize (if l 0=true then Value.map (some m)else undef)=s0;generalize (if l 29=true then Value.map (some m)else undef)=s15;generalize (if l 1=true then shpV b 1 else undef)=s1;generalize (if l 3=true then shpV b 2 else undef)=s2;generalize (if l 5=true then shpV b 3 else undef)=s3;generalize (if l 7=true then shpV b 4 else undef)=s4;generalize (if l 9=true then shpV b 5 else undef)=s5;generalize (if l 11=true then shpV b 6 else undef)=s6;generalize (if l 13=true then shpV b 7 else undef)=s7;generalize (if l 15=true then shpV b 8 else undef)=s8;generalize (if l 17=true then shpV b 9 else undef)=s9;generalize (if l 19=true then shpV b 10 else undef)=s10;generalize (if l 21=true then shpV b 11 else undef)=s11;generalize (if l 23=true then shpV b 12 else undef)=s12;generalize (if l 25=true then shpV b 13 else undef)=s13;generalize (if l 27=true then shpV b 14 else undef)=s14;generalize Value.agg empV=s16;generalize Value.agg ackV=s17;clear hall hm hli hsb hord hmm hh y8 y9 y10 q3 q4 q5 hp3 hp4 hp5;go_wp2_with fail;go_ret;exact⟨m,b,rfl,H.out,hbe.out⟩
end
end Go.Proofs.YtkghejaimhoboaaGreatDoor
