/- Parts of the proof of ScriptTurns. -/
import Derived.Test.YtkghejaimhoboaaGreatDoorPk25
import Derived.Test.YtkghejaimhoboaaGreatDoorPk23
set_option linter.unusedSimpArgs false
set_option linter.unusedVariables false
set_option maxRecDepth 100000
set_option maxHeartbeats 8000000
namespace Go.Proofs.YtkghejaimhoboaaGreatDoor
open Go.RowKit Go.Shelf Go.Proofs.Tryz
section
attribute [local go_sem] Oper.semAt_some
theorem yN{P:Program}{q:IntKind}{w:World}{b:Nat}{G:Int->Option Value}{o:Oper}{a:Act}{K:Act->World->Prop}{Q:Exit->Act->World->Prop}
  (m x v:Operand) (t:TypeId) (hop:o.op=Op.insert t m x v) (k e:TypeId) (ht:P.underlying t=some (.map k e)) (hk:P.underlying k=some (.int q)) (h:IM q w b G)
  (hm:a.eval m=.map (some b)) (n:Int) (val:Value) (hx:a.eval x=.int q n) (hv:a.eval v=val)
  (hK:∀w',IM q w' b (fun k=>if k=n then some val else G k)->w.grownBy w' (some b)->K (a.put o.dst undef) w'):o.wp P a w K Q:=by
 obtain⟨w',hrun,h1,h2⟩:=oY t k e ht hk h n val;unfold Oper.wp;simp[execOp,hop,hm,hx,hv,hrun,Result.andThen];exact hK _ h1 h2
theorem fC{P:Program}{w:World}{o:Oper}{a:Act}{K:Act->World->Prop}{Q:Exit->Act->World->Prop}{b:Nat}{cs:Array Value}{T:TypeId}(ty:TypeId)(x:Operand)(ho:o.op=.load ty x)(hx:a.eval x=.pointer (some ⟨b,0,none⟩))(hb:ar w b cs T){d:TypeDesc}(hu:P.underlying ty=some d)(hd:d.isRow=true)(hi:(P.info? ty).map (·.size)=some cs.size)(h:K (a.put o.dst (.agg cs)) w):o.wp P a w K Q:=by have hr:=aM hb ty hu hd hi;unfold Oper.wp;simp[execOp,ho,hx,hr,Result.andThen];exact h
theorem kP{P:Program}{o:Oper}{a:Act}{w:World}{K:Act->World->Prop}{Q:Exit->Act->World->Prop}(h:∀K':Act->World->Prop,(∀a' w',K a' w'->K' a' w')->o.wp P a w K' Q):o.wp P a w K Q:=h K fun _ _ h=>h
def AH:Array Value:=#[bG 120 #[],bG 121 #[],.nilFunc,.nilFunc,bG 122 #[]]
def AJ:Array Value:=#[bG 123 #[],bG 125 #[],.nilFunc,bG 126 #[],bG 128 #[]]
def dg(b:Nat->Nat)(k:Nat):Value:=
 if k=1 then .agg Tk else if k=2 then .agg AJ else if k=3 then .agg Tl else if k<=11 then .agg (zt (b k))else .agg AH
def cS(b:Nat->Nat)(k:Int):Option Value:=if 1<=k/\k<=14 then some (dg b k.toNat)else none
def Ii(k:Nat):Int:=if k=6\/k=8\/k=10 then 2 else 0
def ZO(k:Nat):FuncId×FuncId×FuncId×FuncId:=
 if k=8 then(131,132,137,138)else if k=9 then(142,143,146,147)
 else if k=10 then(150,151,153,154)else(211,212,213,214)
def kQ(b:Nat->Nat)(k:Nat)(w:World):Prop:=oM (Ii k) (bG (ZO k).1 #[]) (bG (ZO k).2.1 #[]) (bG (ZO k).2.2.1 #[]) (bG (ZO k).2.2.2 #[]) (b k) w
structure AK (w:World)(m:Nat)(b:Nat->Nat):Prop where
 map:IM .i64 w m (cS b)
 box:∀k,4<=k->k<=11->kQ b k w
def gh(p1 p2 p3 p4 p5 e6 e7 c8 c9 c10:Value)(m:Nat)(b:Nat->Nat)(l:Nat->Bool):Act:=
 {tmps:=#[if l 30 then .map (some m)else .map none,p1,p2,p3,p4,p5,e6,e7,c8,c9,c10,if l 0 then .map (some m)else undef,if l 1 then dg b 1 else undef,if l 3 then dg b 2 else undef,if l 5 then dg b 3 else undef,if l 7 then dg b 4 else undef,if l 9 then dg b 5 else undef,if l 11 then dg b 6 else undef,if l 13 then dg b 7 else undef,if l 15 then dg b 8 else undef,if l 17 then dg b 9 else undef,if l 19 then dg b 10 else undef,if l 21 then dg b 11 else undef,if l 23 then dg b 12 else undef,if l 25 then dg b 13 else undef,if l 27 then dg b 14 else undef,if l 29 then .map (some m)else undef],defers:=[]}
structure Tm (p1 p2 p3 p4 p5:Nat)(b:Nat->Nat)(w:World):Prop where
 one:ar w p1 AH 150
 two:ar w p2 AJ 150
 three:ar w p3 (zt (b 8)) 150
 four:ar w p4 (zt (b 9)) 150
 five:ar w p5 (zt (b 10)) 150
theorem Tm.ag{p1 p2 p3 p4 p5:Nat}{b:Nat->Nat}{w w':World}(h:Tm p1 p2 p3 p4 p5 b w)(hb:Below w.heap.size w w'):Tm p1 p2 p3 p4 p5 b w':=⟨h.one.ag hb,h.two.ag hb,h.three.ag hb,h.four.ag hb,h.five.ag hb⟩
def keyed(l:Nat->Bool)(b:Nat->Nat)(k:Int):Option Value:=if 1<=k/\k<=14/\l (2*k.toNat)=true then some (dg b k.toNat)else none
structure sL (l:Nat->Bool):Prop where
 ins:∀k,1<=k->k<=14->l (2*k)=true->l 0=true/\l (2*k-1)=true
 move:l 29=true->l 0=true
 asn:l 30=true->l 29=true
theorem sL.step{l:Nat->Bool}(o:sL l){i:Nat}(h1:∀k,1<=k->k<=14->i=2*k->l 0=true/\l (2*k-1)=true)(h2:i=29->l 0=true)(h3:i=30->l 29=true):sL (fun j=>if j=i then true else l j):=by
 have up:∀j,l j=true->(if j=i then true else l j)=true:=fun j h=>by split<;>simp_all
 refine⟨fun k a b c=>?_,fun c=>?_,fun c=>?_⟩
 ·by_cases h:2*k=i
  ·exact⟨up _ (h1 k a b h.symm).1,up _ (h1 k a b h.symm).2⟩
  rw[if_neg h]at c;exact⟨up _ (o.ins k a b c).1,up _ (o.ins k a b c).2⟩
 ·by_cases h:29=i
  ·exact up _ (h2 h.symm)
  rw[if_neg h]at c;exact up _ (o.move c)
 by_cases h:30=i
 ·exact up _ (h3 h.symm)
 rw[if_neg h]at c;exact up _ (o.asn c)
theorem sL.put{l:Nat->Bool}(o:sL l){n:Nat}(hn:n<=14)(h0:l 0=true)(h1:l (2*n-1)=true):sL (fun j=>if j=2*n then true else l j):=
 o.step (fun k _ _ e=>by
  obtain rfl:k=n:=by omega
  exact⟨h0,h1⟩) (fun e=>by omega) (fun e=>by omega)
structure ShI (w0:World)(p1 p2 p3 p4 p5:Nat)(e6 e7 c8 c9 c10:Value)(l:Nat->Bool)(a:Act)(w:World):Prop where
 out:∃m b,a=gh (lA p1) (lA p2) (lA p3) (lA p4) (lA p5) e6 e7 c8 c9 c10 m b l/\(l 0=true->w0.heap.size<=m/\IM .i64 w m (keyed l b))/\(∀k,4<=k->k<=11->(8<=k/\k<=10)\/l (2*k-1)=true->kQ b k w)/\Tm p1 p2 p3 p4 p5 b w
 ag:Below w0.heap.size w0 w
 ord:sL l
theorem dr{l:Nat->Bool}{b:Nat->Nat}{i:Nat}(hi:i%2=1):keyed (fun j=>if j=i then true else l j) b=keyed l b:=by
 funext k;unfold keyed;have h2:¬2*k.toNat=i:=by omega
 simp only[h2,if_false]
theorem nu{q:IntKind}{w w':World}{m c:Nat}{G:Int->Option Value}{T:TypeId}{v:Value}(h:IM q w m G)(hb:Boxed w c T v)(hw:ak [m] w w'):Boxed w' c T v:=hw.boxed (by simp only[List.mem_singleton];rintro rfl;obtain⟨es,cl,h1, -⟩:=h;rw[show w.heap[c]?=_ from hb]at h1;cases h1) hb
theorem vz{q:IntKind}{w w':World}{m c:Nat}{G:Int->Option Value}{T:TypeId}{cs:Array Value}(h:IM q w m G)(hb:ar w c cs T)(hw:ak [m] w w'):ar w' c cs T:=hb.aw hw (by simp only[List.mem_singleton];rintro rfl;obtain⟨es,cl,h1, -⟩:=h;rw[show w.heap[c]?=_ from hb]at h1;cases h1)
theorem kQ.im{q:IntKind}{w w':World}{m:Nat}{G:Int->Option Value}{b:Nat->Nat}{k:Nat}(x:kQ b k w)(h:IM q w m G)(hw:ak [m] w w'):kQ b k w':=⟨nu h x.fl hw,nu h x.has hw,nu h x.may hw,nu h x.wr hw,nu h x.rd hw⟩
theorem Tm.im{q:IntKind}{w w':World}{m:Nat}{G:Int->Option Value}{p1 p2 p3 p4 p5:Nat}{b:Nat->Nat}(x:Tm p1 p2 p3 p4 p5 b w)(h:IM q w m G)(hw:ak [m] w w'):Tm p1 p2 p3 p4 p5 b w':=⟨vz h x.one hw,vz h x.two hw,vz h x.three hw,vz h x.four hw,vz h x.five hw⟩
theorem Ij{l:Nat->Bool}{b:Nat->Nat}{n:Nat}(hn:1<=n/\n<=14):(fun k:Int=>if k=(n:Int)then some (dg b n)else keyed l b k)=keyed (fun j=>if j=2*n then true else l j) b:=by
 funext k;unfold keyed;by_cases h:k=(n:Int)
 ·subst h;simp;omega
 rw[if_neg h];by_cases hk:1<=k/\k<=14
 ·have h2:¬2*k.toNat=2*n:=by omega
  simp[h2]
 rw[if_neg (fun x=>hk ⟨x.1,x.2.1⟩),if_neg (fun x=>hk ⟨x.1,x.2.1⟩)]
theorem yO{P:Program}{q:IntKind}{w:World}{m:Nat}{l:Nat->Bool}{b:Nat->Nat}{o:Oper}{a:Act}{K:Act->World->Prop}{Q:Exit->Act->World->Prop}
  (mo x v:Operand) (t:TypeId) (hop:o.op=Op.insert t mo x v) (k e:TypeId) (ht:P.underlying t=some (.map k e)) (hk:P.underlying k=some (.int q)) (h:IM q w m (keyed l b))
  (hm:a.eval mo=.map (some m)) {n:Nat} (hn:1<=n/\n<=14) (hx:a.eval x=.int q n) (hv:a.eval v=dg b n)
  (hK:∀w',IM q w' m (keyed (fun j=>if j=2*n then true else l j) b)->w.grownBy w' (some m)->K (a.put o.dst undef) w'):o.wp P a w K Q:=
 yN mo x v t hop k e ht hk h hm n _ hx hv fun w' h1 h2=>hK w' (by rw[<-Ij hn];exact h1) h2
theorem yP(b:Nat):∀v∈(zt b).toList,v.oneCell'=true:=by simp[zt,bG,lA,Value.oneCell']
theorem D2{l:Nat->Bool}(o:sL l)(h:l 0=false)(b:Nat->Nat):keyed (fun j=>if j=0 then true else l j) b=fun _=>none:=by
 funext k;unfold keyed;refine if_neg fun⟨h1,h2,h3⟩=>?_;have h4:¬2*k.toNat=0:=by omega
 replace h3:(if 2*k.toNat=0 then true else l (2*k.toNat))=true:=h3;rw[if_neg h4]at h3;have h5:=(o.ins k.toNat (by omega) (by omega) h3).1;rw[h]at h5;cases h5
theorem AL{l:Nat->Bool}{b:Nat->Nat}{i:Nat}(hi:28<i):keyed (fun j=>if j=i then true else l j) b=keyed l b:=by
 funext k;unfold keyed;by_cases hk:1<=k/\k<=14
 ·have h2:¬2*k.toNat=i:=by omega
  simp only[h2,if_false]
 rw[if_neg (fun x=>hk ⟨x.1,x.2.1⟩),if_neg (fun x=>hk ⟨x.1,x.2.1⟩)]
theorem Ik{l:Nat->Bool}{b:Nat->Nat}(h:∀i,i<31->l i=true):keyed l b=cS b:=by
 funext k;unfold keyed cS;by_cases hk:1<=k/\k<=14
 ·rw[if_pos hk,if_pos ⟨hk.1,hk.2,h _ (by omega)⟩]
 rw[if_neg hk,if_neg (fun x=>hk ⟨x.1,x.2.1⟩)]
theorem nx{l:Nat->Bool}{b:Nat->Nat}{n:Nat}(h:l (2*n)=false)(b':Nat):keyed l (fun j=>if j=n then b' else b j)=keyed l b:=by
 funext k;unfold keyed;by_cases hk:1<=k/\k<=14/\l (2*k.toNat)=true
 ·rw[if_pos hk,if_pos hk];have hn:k.toNat≠n:=fun e=>by rw[e,h]at hk;cases hk.2.2
  unfold dg;simp only[hn,if_false]
 rw[if_neg hk,if_neg hk]
theorem lD(w:World):Calls prog 91 #[] w fun e w'=>∃m b,e=.returned (.map (some m))/\AK w' m b/\Below w.heap.size w w':=by
 obtain⟨W2,hW2⟩:=ae ((w.alloc (.cells AH 150)).alloc (.cells AJ 150));have hb2:Hid (Below w.heap.size w W2):=af (by rw[<-hW2];exact((Below.refl _ w).alloc ah _).alloc (by simp) _);have x1:Hid (ar W2 w.heap.size AH 150):=af (by rw[<-hW2];exact(ar.new _ _ _).alloc _);have x2:Hid (ar W2 (w.heap.size+1) AJ 150):=af (by rw[<-hW2];have h:=ar.new (w.alloc (.cells AH 150)) AJ 150;rw[World.size_alloc]at h;exact h)
 have CL:=af (fun fl f1 f2 f3 f4 W=>FL fl f1 f2 f3 f4 W);unfold AH AJ bG at hW2;unfold bG at CL;go_enter func91,ntmps91;go_wp2_with fail
 refine(CL _ _ _ _ _ _).mono ?_;rintro e w3 ⟨b8,hl8,rfl,hL8,OV⟩;obtain⟨c8,Ns⟩:=ae (zt b8);have QH:Hid (c8.size=5):=af (by rw[<-Ns];rfl);have tA:Hid (∀v∈c8.toList,v.oneCell'=true):=af (by rw[<-Ns];exact yP b8);rw[Ns];replace Ns:=af Ns;replace hl8:=af hl8;replace hL8:=af hL8;replace OV:=af OV;go_upto_region 4 with(refine wS 150 5 rfl _ _ c8 rfl rfl (ar.new _ _ _) QH.out rfl tA.out ?_;intro w4 Xd OW);have abM:=OV.size;have OX:Below w3.heap.size w3 w4:=(ai.alloc ah _).trans (OW.ag (by simp) (by simp));have Lu:Below W2.heap.size W2 w4:=(OV.alloc abM _).trans (OW.ag (by simp;omega) (by simp;omega));have hb4:=af (hb2.trans (Lu.mono hb2.size));have JB:=af Xd;replace Lu:=af Lu;replace OX:=af OX;replace OW:=af OW;clear Xd;try simp only[PT]
 go_wp2_with fail
 refine(CL _ _ _ _ _ _).mono ?_;rintro e w5 ⟨b9,hl9,rfl,hL9,OY⟩;obtain⟨c9,QJ⟩:=ae (zt b9);have Tp:Hid (c9.size=5):=af (by rw[<-QJ];rfl);have JC:Hid (∀v∈c9.toList,v.oneCell'=true):=af (by rw[<-QJ];exact yP b9);rw[QJ];replace QJ:=af QJ;replace hl9:=af hl9;replace hL9:=af hL9;replace OY:=af OY;go_upto_region 5 with(refine wS 150 5 rfl _ _ c9 rfl rfl (ar.new _ _ _) Tp.out rfl JC.out ?_;intro w6 Xe OZ);have abO:=OY.size;have O0:Below w5.heap.size w5 w6:=(ai.alloc ah _).trans (OZ.ag (by simp) (by simp));have AO:Below w4.heap.size w4 w6:=(OY.alloc abO _).trans (OZ.ag (by simp;omega) (by simp;omega));have fj:=af (hb4.trans (AO.mono hb4.size));have Cg:=af Xe;replace AO:=af AO;replace O0:=af O0;replace OZ:=af OZ;clear Xe;try simp only[PT]
 go_wp2_with fail
 refine(CL _ _ _ _ _ _).mono ?_;rintro e w7 ⟨DK,Xf,rfl,Tq,O1⟩;obtain⟨c10,Il⟩:=ae (zt DK);have SC:Hid (c10.size=5):=af (by rw[<-Il];rfl);have abP:Hid (∀v∈c10.toList,v.oneCell'=true):=af (by rw[<-Il];exact yP DK);rw[Il];replace Il:=af Il;replace Xf:=af Xf;replace Tq:=af Tq;replace O1:=af O1;go_upto_region 6 with(refine wS 150 5 rfl _ _ c10 rfl rfl (ar.new _ _ _) SC.out rfl abP.out ?_;intro w8 Xg O2);have abQ:=O1.size;have Tr:Below w7.heap.size w7 w8:=(ai.alloc ah _).trans (O2.ag (by simp) (by simp));have AP:Below w6.heap.size w6 w8:=(O1.alloc abQ _).trans (O2.ag (by simp;omega) (by simp;omega));have pU:=af (fj.trans (AP.mono fj.size));have abR:=af Xg;replace AP:=af AP;replace Tr:=af Tr;replace O2:=af O2;clear Xg;try simp only[PT]
 obtain⟨p3,Vb⟩:=ae w3.heap.size;obtain⟨p4,Ol⟩:=ae w5.heap.size;obtain⟨p5,Fl⟩:=ae w7.heap.size;have q3:ar w8 p3 c8 150:=by rw[<-Vb];exact(JB.ag AO.out).ag AP.out
 have q4:ar w8 p4 c9 150:=by rw[<-Ol];exact Cg.ag AP.out
 have q5:ar w8 p5 c10 150:=by rw[<-Fl];exact abR.out
 have Xh:=Lu.trans ((AO.trans (AP.mono AO.size)).mono Lu.size);have y8:=hL8.ag (OX.trans (((AO.trans (AP.mono AO.size)).mono OX.size)));have y9:=hL9.ag (O0.trans (AP.mono O0.size));have D3:=Tq.ag Tr.out;refine vX (ShI w w.heap.size (w.heap.size+1) p3 p4 p5 (.agg AH) (.agg AJ) (.agg c8) (.agg c9) (.agg c10)) (by kernel_rfl) (by kernel_rfl) ?_ ?_ ?_
 ·refine⟨⟨0,fun k=>if k=8 then b8 else if k=9 then b9 else DK,?_,?_,?_,?_⟩,?_,?_⟩
  ·change _=gh _ _ _ _ _ _ _ _ _ _ _ _ (fun i=>decide (31<=i));simp[gh,lA,Vb,Ol,Fl];exact⟨rfl,rfl⟩
  ·intro h;cases h
  ·intro k h4 h11 hk;have hk:k=8\/k=9\/k=10:=by
    rcases hk with hk | hk
    ·omega
    have hk:decide (31<=2*k-1)=true:=hk;rw[decide_eq_true_eq]at hk;omega
   have bd:Below w8.heap.size w8 w8.drew:=ai.drew;rcases hk with rfl | rfl | rfl
   ·exact y8.ag bd
   ·exact y9.ag bd
   exact D3.ag bd
  ·refine⟨?_,?_,?_,?_,?_⟩
   ·exact x1.ag Xh.drew
   ·exact x2.ag Xh.drew
   ·rw[show zt ((fun k=>if k=8 then b8 else if k=9 then b9 else DK) 8)=c8 from Ns.out];exact q3
   ·rw[show zt ((fun k=>if k=8 then b8 else if k=9 then b9 else DK) 9)=c9 from QJ.out];exact q4
   rw[show zt ((fun k=>if k=8 then b8 else if k=9 then b9 else DK) 10)=c10 from Il.out];exact q5
  ·exact pU.drew
  refine⟨fun k h1 h2 h=>?_,fun h=>?_,fun h=>?_⟩
  ·have h:decide (31<=2*k)=true:=h;rw[decide_eq_true_eq]at h;omega
  ·cases h
  cases h
 ·intro l a W i hI hi hl hr;have hi:i<31:=hi;obtain⟨⟨m,b,rfl,hm,wQ,eD⟩,ny,gT⟩:=hI;rcases Classical.em (1<=i / 2/\i / 2<=14/\i%2=0)with pQ | pQ
  ·obtain⟨n,hn,rfl⟩:∃n,(1<=n/\n<=14)/\i=2*n:=⟨i / 2,by omega,by omega⟩;clear pQ;rcases(show n=1\/n=2\/n=3\/n=4\/n=5\/n=6\/n=7\/n=8\/n=9\/n=10\/n=11\/n=12\/n=13\/n=14 by omega)with rfl | rfl | rfl | rfl | rfl | rfl | rfl | rfl | rfl | rfl | rfl | rfl | rfl | rfl
   all_goals
    have h:=hr _ rfl;simp[Region.binds]at h;obtain⟨h0,h1⟩:=h;refine⟨⟨_,rfl,by kernel_rfl,?_⟩⟩;refine yO _ _ _ 152 rfl 45 150 underlying152 underlying45 (hm h0).2 (by simp[gh,Act.eval,h0]) hn rfl (by simp[gh,Act.eval,h1]) fun w' PV hg=>?_;have hw:ak [m] W w':=ak.ep hg (fun k hk=>by cases hk;simp);refine⟨⟨m,b,by simp[gh,Act.put],fun _=>⟨(hm h0).1,PV⟩,fun k h4 h11 hk=>?_,eD.im (hm h0).2 hw⟩,ny.trans (hw.ag ny.size (by have:=(hm h0).1;simpa using this)),gT.put hn.2 h0 h1⟩;exact(wQ k h4 h11 (hk.imp id fun h=>by rw[if_neg (by omega)]at h;exact h)).im (hm h0).2 hw
  have uI:i=3\/i=15\/i=17\/i=19\/i=23\/i=25\/i=27\/¬(i=3\/i=15\/i=17\/i=19\/i=23\/i=25\/i=27):=by omega
  rcases uI with rfl | rfl | rfl | rfl | rfl | rfl | rfl | pR
  ·refine⟨⟨_,rfl,by kernel_rfl,?_⟩⟩;refine fC 150 _ rfl (by simp[gh,Act.eval,lA]) eD.two underlying150 rfl (by kernel_rfl) ?_;refine⟨⟨m,b,by simp[gh,Act.put,dg],fun h=>?_,fun k h4 h11 hk=>wQ k h4 h11 ?_,eD⟩,ny,gT.step (fun k _ _ e=>absurd e (by omega)) (fun e=>absurd e (by decide)) (fun e=>absurd e (by decide))⟩
   ·rw[dr (by decide)];exact hm (by simpa using h)
   rcases hk with hk | hk
   ·exact .inl hk
   by_cases h7:2*k-1=3
   ·exact .inl (by omega)
   rw[if_neg h7]at hk;exact .inr hk
  ·refine⟨⟨_,rfl,by kernel_rfl,?_⟩⟩;refine fC 150 _ rfl (by simp[gh,Act.eval,lA]) eD.three underlying150 rfl (by kernel_rfl) ?_;refine⟨⟨m,b,by simp[gh,Act.put,dg],fun h=>?_,fun k h4 h11 hk=>wQ k h4 h11 ?_,eD⟩,ny,gT.step (fun k _ _ e=>absurd e (by omega)) (fun e=>absurd e (by decide)) (fun e=>absurd e (by decide))⟩
   ·rw[dr (by decide)];exact hm (by simpa using h)
   rcases hk with hk | hk
   ·exact .inl hk
   by_cases h7:2*k-1=15
   ·exact .inl (by omega)
   rw[if_neg h7]at hk;exact .inr hk
  ·refine⟨⟨_,rfl,by kernel_rfl,?_⟩⟩;refine fC 150 _ rfl (by simp[gh,Act.eval,lA]) eD.four underlying150 rfl (by kernel_rfl) ?_;refine⟨⟨m,b,by simp[gh,Act.put,dg],fun h=>?_,fun k h4 h11 hk=>wQ k h4 h11 ?_,eD⟩,ny,gT.step (fun k _ _ e=>absurd e (by omega)) (fun e=>absurd e (by decide)) (fun e=>absurd e (by decide))⟩
   ·rw[dr (by decide)];exact hm (by simpa using h)
   rcases hk with hk | hk
   ·exact .inl hk
   by_cases h7:2*k-1=17
   ·exact .inl (by omega)
   rw[if_neg h7]at hk;exact .inr hk
  ·refine⟨⟨_,rfl,by kernel_rfl,?_⟩⟩;refine fC 150 _ rfl (by simp[gh,Act.eval,lA]) eD.five underlying150 rfl (by kernel_rfl) ?_;refine⟨⟨m,b,by simp[gh,Act.put,dg],fun h=>?_,fun k h4 h11 hk=>wQ k h4 h11 ?_,eD⟩,ny,gT.step (fun k _ _ e=>absurd e (by omega)) (fun e=>absurd e (by decide)) (fun e=>absurd e (by decide))⟩
   ·rw[dr (by decide)];exact hm (by simpa using h)
   rcases hk with hk | hk
   ·exact .inl hk
   by_cases h7:2*k-1=19
   ·exact .inl (by omega)
   rw[if_neg h7]at hk;exact .inr hk
  ·refine⟨⟨_,rfl,by kernel_rfl,?_⟩⟩;refine fC 150 _ rfl (by simp[gh,Act.eval,lA]) eD.one underlying150 rfl (by kernel_rfl) ?_;refine⟨⟨m,b,by simp[gh,Act.put,dg],fun h=>?_,fun k h4 h11 hk=>wQ k h4 h11 ?_,eD⟩,ny,gT.step (fun k _ _ e=>absurd e (by omega)) (fun e=>absurd e (by decide)) (fun e=>absurd e (by decide))⟩
   ·rw[dr (by decide)];exact hm (by simpa using h)
   rcases hk with hk | hk
   ·exact .inl hk
   by_cases h7:2*k-1=23
   ·exact .inl (by omega)
   rw[if_neg h7]at hk;exact .inr hk
  ·refine⟨⟨_,rfl,by kernel_rfl,?_⟩⟩;refine fC 150 _ rfl (by simp[gh,Act.eval,lA]) eD.one underlying150 rfl (by kernel_rfl) ?_;refine⟨⟨m,b,by simp[gh,Act.put,dg],fun h=>?_,fun k h4 h11 hk=>wQ k h4 h11 ?_,eD⟩,ny,gT.step (fun k _ _ e=>absurd e (by omega)) (fun e=>absurd e (by decide)) (fun e=>absurd e (by decide))⟩
   ·rw[dr (by decide)];exact hm (by simpa using h)
   rcases hk with hk | hk
   ·exact .inl hk
   by_cases h7:2*k-1=25
   ·exact .inl (by omega)
   rw[if_neg h7]at hk;exact .inr hk
  ·refine⟨⟨_,rfl,by kernel_rfl,?_⟩⟩;refine fC 150 _ rfl (by simp[gh,Act.eval,lA]) eD.one underlying150 rfl (by kernel_rfl) ?_;refine⟨⟨m,b,by simp[gh,Act.put,dg],fun h=>?_,fun k h4 h11 hk=>wQ k h4 h11 ?_,eD⟩,ny,gT.step (fun k _ _ e=>absurd e (by omega)) (fun e=>absurd e (by decide)) (fun e=>absurd e (by decide))⟩
   ·rw[dr (by decide)];exact hm (by simpa using h)
   rcases hk with hk | hk
   ·exact .inl hk
   by_cases h7:2*k-1=27
   ·exact .inl (by omega)
   rw[if_neg h7]at hk;exact .inr hk
  have uI:i=1\/i=5\/¬(i=1\/i=5):=by omega
  rcases uI with rfl | rfl | Vc
  ·refine⟨⟨_,rfl,by kernel_rfl,kP fun K hK=>?_⟩⟩;go_simp;refine(DX W).mono ?_;rintro e w' ⟨rfl,hb⟩;refine hK _ _ ?_;refine⟨⟨m,b,by simp[gh,Act.put,dg],fun h=>?_,fun k h4 h11 hk=>oM.ag (wQ k h4 h11 ?_) hb,eD.ag hb⟩,ny.trans (hb.mono ny.size),gT.step (fun k _ _ e=>absurd e (by omega)) (fun e=>absurd e (by decide)) (fun e=>absurd e (by decide))⟩
   ·rw[dr (by decide)];have h8:=hm (by simpa using h);exact⟨h8.1,h8.2.ag hb⟩
   rcases hk with hk | hk
   ·exact .inl hk
   by_cases h7:2*k-1=1
   ·omega
   rw[if_neg h7]at hk;exact .inr hk
  ·refine⟨⟨_,rfl,by kernel_rfl,kP fun K hK=>?_⟩⟩;go_simp;refine(DY W).mono ?_;rintro e w' ⟨rfl,hb⟩;refine hK _ _ ?_;refine⟨⟨m,b,by simp[gh,Act.put,dg],fun h=>?_,fun k h4 h11 hk=>oM.ag (wQ k h4 h11 ?_) hb,eD.ag hb⟩,ny.trans (hb.mono ny.size),gT.step (fun k _ _ e=>absurd e (by omega)) (fun e=>absurd e (by decide)) (fun e=>absurd e (by decide))⟩
   ·rw[dr (by decide)];have h8:=hm (by simpa using h);exact⟨h8.1,h8.2.ag hb⟩
   rcases hk with hk | hk
   ·exact .inl hk
   by_cases h7:2*k-1=5
   ·omega
   rw[if_neg h7]at hk;exact .inr hk
  have uI:i=0\/i=7\/i=9\/i=11\/i=13\/i=21\/i=29\/i=30:=by omega
  rcases uI with rfl | rfl | rfl | rfl | rfl | rfl | rfl | rfl
  ·have Xi:l 29=false:=by
    cases h:l 29 with
    | false=>rfl
    | true=>have:=gT.move h;rw[hl]at this;cases this
   have abS:l 30=false:=by
    cases h:l 30 with
    | false=>rfl
    | true=>have:=gT.asn h;rw[Xi]at this;cases this
   have Fa:= @run_makeMap prog;refine⟨⟨_,rfl,by kernel_rfl,kP fun K hK=>?_⟩⟩;go_simp;refine hK _ _ ?_;have hb:Below W.heap.size W (W.alloc (.map #[] 0)):=(Below.refl _ W).alloc ah _;refine⟨⟨W.heap.size,b,by simp[gh,Act.put,Xi,abS],fun _=>⟨ny.size,?_⟩,fun k h4 h11 hk=>oM.ag (wQ k h4 h11 (hk.imp id fun h=>by
    have h9:¬2*k-1=0:=by omega
    rw[if_neg h9]at h;exact h)) hb,eD.ag hb⟩,ny.trans (hb.mono ny.size),gT.step (fun k _ _ e=>absurd e (by omega)) (fun e=>absurd e (by decide)) (fun e=>absurd e (by decide))⟩
   rw[D2 gT hl];exact IM.new W
  ·have h7:l (2*4)=false:=by
    cases h:l (2*4)with
    | false=>rfl
    | true=>have:=(gT.ins 4 (by decide) (by decide) h).2;rw[show 2*4-1=7 from rfl,hl]at this;cases this
   refine⟨⟨_,rfl,by kernel_rfl,kP fun K hK=>?_⟩⟩;go_simp;refine(lB 0 W).mono ?_;rintro e w' ⟨b',hb',rfl,hL,hb⟩;refine hK _ _ ?_;refine⟨⟨m,fun j=>if j=4 then b' else b j,by simp[gh,Act.put,dg],fun h=>?_,fun k h4 h11 hk=>?_,?_⟩,ny.trans (hb.mono ny.size),gT.step (fun k _ _ e=>absurd e (by omega)) (fun e=>absurd e (by decide)) (fun e=>absurd e (by decide))⟩
   ·rw[dr (by decide),nx h7];have h8:=hm (by simpa using h);exact⟨h8.1,h8.2.ag hb⟩
   ·by_cases oH:k=4
    ·subst oH;exact hL
    have hx:kQ b k w':=(wQ k h4 h11 (hk.imp id fun h=>by
     have h9:¬2*k-1=7:=by omega
     rw[if_neg h9]at h;exact h)).ag hb
    show oM (Ii k) _ _ _ _ (if k=4 then b' else b k) w';rw[if_neg oH];exact hx
   have x:=eD.ag hb;exact⟨x.one,x.two,x.three,x.four,x.five⟩
  ·have h7:l (2*5)=false:=by
    cases h:l (2*5)with
    | false=>rfl
    | true=>have:=(gT.ins 5 (by decide) (by decide) h).2;rw[show 2*5-1=9 from rfl,hl]at this;cases this
   refine⟨⟨_,rfl,by kernel_rfl,kP fun K hK=>?_⟩⟩;go_simp;refine(lB 0 W).mono ?_;rintro e w' ⟨b',hb',rfl,hL,hb⟩;refine hK _ _ ?_;refine⟨⟨m,fun j=>if j=5 then b' else b j,by simp[gh,Act.put,dg],fun h=>?_,fun k h4 h11 hk=>?_,?_⟩,ny.trans (hb.mono ny.size),gT.step (fun k _ _ e=>absurd e (by omega)) (fun e=>absurd e (by decide)) (fun e=>absurd e (by decide))⟩
   ·rw[dr (by decide),nx h7];have h8:=hm (by simpa using h);exact⟨h8.1,h8.2.ag hb⟩
   ·by_cases oH:k=5
    ·subst oH;exact hL
    have hx:kQ b k w':=(wQ k h4 h11 (hk.imp id fun h=>by
     have h9:¬2*k-1=9:=by omega
     rw[if_neg h9]at h;exact h)).ag hb
    show oM (Ii k) _ _ _ _ (if k=5 then b' else b k) w';rw[if_neg oH];exact hx
   have x:=eD.ag hb;exact⟨x.one,x.two,x.three,x.four,x.five⟩
  ·have h7:l (2*6)=false:=by
    cases h:l (2*6)with
    | false=>rfl
    | true=>have:=(gT.ins 6 (by decide) (by decide) h).2;rw[show 2*6-1=11 from rfl,hl]at this;cases this
   refine⟨⟨_,rfl,by kernel_rfl,kP fun K hK=>?_⟩⟩;go_simp;refine(lB 2 W).mono ?_;rintro e w' ⟨b',hb',rfl,hL,hb⟩;refine hK _ _ ?_;refine⟨⟨m,fun j=>if j=6 then b' else b j,by simp[gh,Act.put,dg],fun h=>?_,fun k h4 h11 hk=>?_,?_⟩,ny.trans (hb.mono ny.size),gT.step (fun k _ _ e=>absurd e (by omega)) (fun e=>absurd e (by decide)) (fun e=>absurd e (by decide))⟩
   ·rw[dr (by decide),nx h7];have h8:=hm (by simpa using h);exact⟨h8.1,h8.2.ag hb⟩
   ·by_cases oH:k=6
    ·subst oH;exact hL
    have hx:kQ b k w':=(wQ k h4 h11 (hk.imp id fun h=>by
     have h9:¬2*k-1=11:=by omega
     rw[if_neg h9]at h;exact h)).ag hb
    show oM (Ii k) _ _ _ _ (if k=6 then b' else b k) w';rw[if_neg oH];exact hx
   have x:=eD.ag hb;exact⟨x.one,x.two,x.three,x.four,x.five⟩
  ·have h7:l (2*7)=false:=by
    cases h:l (2*7)with
    | false=>rfl
    | true=>have:=(gT.ins 7 (by decide) (by decide) h).2;rw[show 2*7-1=13 from rfl,hl]at this;cases this
   refine⟨⟨_,rfl,by kernel_rfl,kP fun K hK=>?_⟩⟩;go_simp;refine(lB 0 W).mono ?_;rintro e w' ⟨b',hb',rfl,hL,hb⟩;refine hK _ _ ?_;refine⟨⟨m,fun j=>if j=7 then b' else b j,by simp[gh,Act.put,dg],fun h=>?_,fun k h4 h11 hk=>?_,?_⟩,ny.trans (hb.mono ny.size),gT.step (fun k _ _ e=>absurd e (by omega)) (fun e=>absurd e (by decide)) (fun e=>absurd e (by decide))⟩
   ·rw[dr (by decide),nx h7];have h8:=hm (by simpa using h);exact⟨h8.1,h8.2.ag hb⟩
   ·by_cases oH:k=7
    ·subst oH;exact hL
    have hx:kQ b k w':=(wQ k h4 h11 (hk.imp id fun h=>by
     have h9:¬2*k-1=13:=by omega
     rw[if_neg h9]at h;exact h)).ag hb
    show oM (Ii k) _ _ _ _ (if k=7 then b' else b k) w';rw[if_neg oH];exact hx
   have x:=eD.ag hb;exact⟨x.one,x.two,x.three,x.four,x.five⟩
  ·have h7:l (2*11)=false:=by
    cases h:l (2*11)with
    | false=>rfl
    | true=>have:=(gT.ins 11 (by decide) (by decide) h).2;rw[show 2*11-1=21 from rfl,hl]at this;cases this
   refine⟨⟨_,rfl,by kernel_rfl,kP fun K hK=>?_⟩⟩;go_simp;refine(lB 0 W).mono ?_;rintro e w' ⟨b',hb',rfl,hL,hb⟩;refine hK _ _ ?_;refine⟨⟨m,fun j=>if j=11 then b' else b j,by simp[gh,Act.put,dg],fun h=>?_,fun k h4 h11 hk=>?_,?_⟩,ny.trans (hb.mono ny.size),gT.step (fun k _ _ e=>absurd e (by omega)) (fun e=>absurd e (by decide)) (fun e=>absurd e (by decide))⟩
   ·rw[dr (by decide),nx h7];have h8:=hm (by simpa using h);exact⟨h8.1,h8.2.ag hb⟩
   ·by_cases oH:k=11
    ·subst oH;exact hL
    have hx:kQ b k w':=(wQ k h4 h11 (hk.imp id fun h=>by
     have h9:¬2*k-1=21:=by omega
     rw[if_neg h9]at h;exact h)).ag hb
    show oM (Ii k) _ _ _ _ (if k=11 then b' else b k) w';rw[if_neg oH];exact hx
   have x:=eD.ag hb;exact⟨x.one,x.two,x.three,x.four,x.five⟩
  ·have h:=hr _ rfl;simp[Region.binds]at h;have h0:=h.1;clear h;refine⟨⟨_,rfl,by kernel_rfl,kP fun K hK=>?_⟩⟩;go_simp;refine hK _ _ ?_;refine⟨⟨m,b,by simp[gh,Act.put,Act.eval,h0],fun _=>by rw[AL (by decide)];exact hm h0,fun k h4 h11 hk=>wQ k h4 h11 (hk.imp id fun h=>by
    have h9:¬2*k-1=29:=by omega
    rw[if_neg h9]at h;exact h),eD⟩,ny,gT.step (fun k _ _ e=>absurd e (by omega)) (fun _=>h0) (fun e=>absurd e (by decide))⟩
  have h:=hr _ rfl;simp[Region.binds]at h;have h29:=h.1;have h0:=gT.move h29;clear h;refine⟨⟨_,rfl,by kernel_rfl,kP fun K hK=>?_⟩⟩;go_simp;refine hK _ _ ?_;refine⟨⟨m,b,by simp[gh,Act.put,Act.eval,h29],fun _=>by rw[AL (by decide)];exact hm h0,fun k h4 h11 hk=>wQ k h4 h11 (hk.imp id fun h=>by
   have h9:¬2*k-1=30:=by omega
   rw[if_neg h9]at h;exact h),eD⟩,ny,gT.step (fun k _ _ e=>absurd e (by omega)) (fun e=>absurd e (by decide)) (fun _=>h29)⟩
 intro l a W hall hI;obtain⟨⟨m,b,rfl,hm,wQ,eD⟩,ny,gT⟩:=hI;have hh:∀i,i<31->l i=true:=fun i hi=>hall i hi;have Fa:=(hm (hh 0 (by decide))).2;rw[Ik hh]at Fa;have H:Hid (AK W m b):=af ⟨Fa,fun k h4 h11=>wQ k h4 h11 (.inr (hh _ (by omega)))⟩;replace ny:=af ny;unfold gh;rw[if_pos (hh 30 (by decide))];generalize (if l 0=true then Value.map (some m)else undef)=s0;generalize (if l 29=true then Value.map (some m)else undef)=s15;generalize (if l 1=true then dg b 1 else undef)=s1;generalize (if l 3=true then dg b 2 else undef)=s2;generalize (if l 5=true then dg b 3 else undef)=s3;generalize (if l 7=true then dg b 4 else undef)=s4;generalize (if l 9=true then dg b 5 else undef)=s5;generalize (if l 11=true then dg b 6 else undef)=s6;generalize (if l 13=true then dg b 7 else undef)=s7;generalize (if l 15=true then dg b 8 else undef)=s8;generalize (if l 17=true then dg b 9 else undef)=s9;generalize (if l 19=true then dg b 10 else undef)=Xj;generalize (if l 21=true then dg b 11 else undef)=Ts;generalize (if l 23=true then dg b 12 else undef)=s12;generalize (if l 25=true then dg b 13 else undef)=s13;generalize (if l 27=true then dg b 14 else undef)=s14;generalize Value.agg AH=s16;generalize Value.agg AJ=s17;clear hall hm wQ eD gT Fa hh y8 y9 D3 q3 q4 q5 Vb Ol Fl;go_wp2_with fail;go_ret;exact⟨m,b,rfl,H.out,ny.out⟩
theorem TK(g:FuncId)(lb:Array Value)(p:(List UInt8)->Bool){w:World}{a:Option Addr}{n c:Nat}{l:List (List UInt8)}(h:aW uV 1 w a n c l)(eg:gY g)
  (hg:∀W x,x∈l->Below w.heap.size w W->Calls prog g (#[vh x]++lb) W (dD (p x) W)):Calls prog 242 #[.slice a n c,.func (.func g) #[] lb] w (Ti (l.any p) w):=by
 have hle:=h.le;have mM:=h.max;unfold maxLen at mM;have hn:n<=9223372036854775807:=by omega
 have HL:=af h.len;have HG:=af hg;have HV:=af h;unfold gY at eg;clear hle mM hg h;go_enter func242,ntmps242;go_wp2_with fail
 go_loopw [8] (fun i wr=>∃k:Nat,i=.int .i64 k/\k<=n/\Hid (Below w.heap.size w wr)/\Hid (∀j x,j<k->l[j]?=some x->p x=false)) (fun i _=>n-(intOf i).toNat)
 case atStart=>exact⟨0,rfl,Nat.zero_le _,af ai,af fun j x hj=>absurd hj (Nat.not_lt_zero _)⟩
 case round=>
  obtain⟨k,rfl,hk,hB,hall⟩:=hrel;rcases Nat.lt_or_ge k n with hlt | jw
  ·obtain⟨x,hx⟩:∃x,l[k]?=some x:=⟨_,List.getElem?_eq_getElem (by rw[HL.out];exact hlt)⟩;obtain⟨g1,o1,ha,hr⟩:=HV.range hx;have hc:=hr _ hB.out;have CC:=af (HG wr x (List.mem_of_getElem? hx) hB.out);subst ha;replace hx:=af hx;clear hr;(have h0:=hc 0 (.string ⟨x.toArray⟩) rfl;simp only[Nat.mul_one,Nat.add_zero]at h0;unfold vh at CC;clear hc);go_wp2_with fail
   refine CC.mono ?_;rintro e w1 ⟨rfl,hb1⟩;have gH:=af (hB.out.trans (hb1.mono hB.out.size));clear hb1;cases hp:p x with
   | false=>
    replace hp:=af hp;go_wp2_with fail;go_roundw
    case rel=>
     refine⟨k+1,by go_num,by omega,gH,af fun j y hj hy=>?_⟩;by_cases hjk:j=k
     ·subst hjk;rw[hx.out]at hy;cases hy;exact hp.out
     exact hall.out j y (by omega) hy
    case measure=>simp[intOf];omega
   |true=>have Lq:=af (DU hx.out hp);clear hp;go_wp2_with fail;go_ret;exact⟨_,rfl,⟨fun _=>Lq.out,fun _=>by omega⟩,gH.out⟩
  obtain rfl:k=n:=by omega
  have hno:=af (DW (p:=p) (l:=l) (fun j x hj=>hall.out j x (by have:=(List.getElem?_eq_some_iff.1 hj).1;have:=HL.out;omega) hj));go_wp2_with fail
  go_ret;exact⟨-1,rfl,⟨fun h=>by omega,fun h=>by rw[hno.out]at h;cases h⟩,hB.out⟩
theorem Pd(g:FuncId)(lb:Array Value)(p:(List UInt8)->Bool){w:World}{a:Option Addr}{n c:Nat}{l:List (List UInt8)}(h:aW uV 1 w a n c l)(eg:gY g)
  (hg:∀W x,x∈l->Below w.heap.size w W->Calls prog g (#[vh x]++lb) W (dD (p x) W)):Calls prog 195 #[.slice a n c,.func (.func g) #[] lb] w (dD (l.any p) w):=by
 have HG:=af (TK g lb p h eg hg);clear hg eg h;obtain⟨b,hb⟩:=ae (l.any p);rw[hb]at HG ⊢;clear hb;go_enter func195,ntmps195;go_wp2_with fail
 refine HG.mono ?_;rintro e w1 ⟨z,rfl,hz,hb1⟩;have gH:=af hb1;clear hb1;cases b with
 |true=>have h0:0<=z:=hz.2 rfl;clear hz;go_wp2_with fail;go_ret;exact⟨by simp[h0],gH.out⟩
 |false=>
  have h0:¬0<=z:=fun h=>by have:=hz.1 h;cases this
  have d0:decide (0<=z)=false:=decide_eq_false h0;clear hz;go_wp2_with fail;go_ret;exact⟨by simp[h0],gH.out⟩
theorem Pe(g:FuncId)(lb:Array Value)(p:bM->Bool){w:World}{a:Option Addr}{n c:Nat}{l:List bM}(h:aW bM.cl 2 w a n c l)(eg:gY g)
  (hg:∀W x,x∈l->Below w.heap.size w W->Calls prog g (#[vP x]++lb) W (dD (p x) W)):Calls prog 237 #[.slice a n c,.func (.func g) #[] lb] w (Ti (l.any p) w):=by
 have hle:=h.le;have mM:=h.max;unfold maxLen at mM;have hn:n<=9223372036854775807:=by omega
 have HL:=af h.len;have HG:=af hg;have HV:=af h;unfold gY at eg;clear hle mM hg h;go_enter func237,ntmps237;go_wp2_with fail
 go_loopw [8] (fun i wr=>∃k:Nat,i=.int .i64 k/\k<=n/\Hid (Below w.heap.size w wr)/\Hid (∀j x,j<k->l[j]?=some x->p x=false)) (fun i _=>n-(intOf i).toNat)
 case atStart=>exact⟨0,rfl,Nat.zero_le _,af ai,af fun j x hj=>absurd hj (Nat.not_lt_zero _)⟩
 case round=>
  obtain⟨k,rfl,hk,hB,hall⟩:=hrel;rcases Nat.lt_or_ge k n with hlt | jw
  ·obtain⟨x,hx⟩:∃x,l[k]?=some x:=⟨_,List.getElem?_eq_getElem (by rw[HL.out];exact hlt)⟩;obtain⟨g1,o1,ha,hr⟩:=HV.range hx;have hc:=hr _ hB.out;have CC:=af (HG wr x (List.mem_of_getElem? hx) hB.out);subst ha;replace hx:=af hx;clear hr;(unfold vP at CC);go_wp2_with (refine sF 169 rfl rfl hc underlying169 ?_)
   refine CC.mono ?_;rintro e w1 ⟨rfl,hb1⟩;have gH:=af (hB.out.trans (hb1.mono hB.out.size));clear hb1;cases hp:p x with
   | false=>
    replace hp:=af hp;go_wp2_with fail;go_roundw
    case rel=>
     refine⟨k+1,by go_num,by omega,gH,af fun j y hj hy=>?_⟩;by_cases hjk:j=k
     ·subst hjk;rw[hx.out]at hy;cases hy;exact hp.out
     exact hall.out j y (by omega) hy
    case measure=>simp[intOf];omega
   |true=>have Lq:=af (DU hx.out hp);clear hp;go_wp2_with fail;go_ret;exact⟨_,rfl,⟨fun _=>Lq.out,fun _=>by omega⟩,gH.out⟩
  obtain rfl:k=n:=by omega
  have hno:=af (DW (p:=p) (l:=l) (fun j x hj=>hall.out j x (by have:=(List.getElem?_eq_some_iff.1 hj).1;have:=HL.out;omega) hj));go_wp2_with fail
  go_ret;exact⟨-1,rfl,⟨fun h=>by omega,fun h=>by rw[hno.out]at h;cases h⟩,hB.out⟩
theorem Mg(g:FuncId)(lb:Array Value)(p:bM->Bool){w:World}{a:Option Addr}{n c:Nat}{l:List bM}(h:aW bM.cl 2 w a n c l)(eg:gY g)
  (hg:∀W x,x∈l->Below w.heap.size w W->Calls prog g (#[vP x]++lb) W (dD (p x) W)):Calls prog 188 #[.slice a n c,.func (.func g) #[] lb] w (dD (l.any p) w):=by
 have HG:=af (Pe g lb p h eg hg);clear hg eg h;obtain⟨b,hb⟩:=ae (l.any p);rw[hb]at HG ⊢;clear hb;go_enter func188,ntmps188;go_wp2_with fail
 refine HG.mono ?_;rintro e w1 ⟨z,rfl,hz,hb1⟩;have gH:=af hb1;clear hb1;cases b with
 |true=>have h0:0<=z:=hz.2 rfl;clear hz;go_wp2_with fail;go_ret;exact⟨by simp[h0],gH.out⟩
 |false=>
  have h0:¬0<=z:=fun h=>by have:=hz.1 h;cases this
  have d0:decide (0<=z)=false:=decide_eq_false h0;clear hz;go_wp2_with fail;go_ret;exact⟨by simp[h0],gH.out⟩
theorem A9(f:FuncId)(cap:Array Value)(b:Bool)(x:Int)(bx:Nat)(W:World)(ef:gY f)(hb:Boxed W bx 110 (.func (.func f) #[] cap))(hf:∀W',Below W.heap.size W W'->Calls prog f (#[qD x]++cap) W' (dD b W')):Calls prog 194 #[qD x,.pointer (some ⟨bx,0,none⟩)] W (dD (!b) W):=by
 (have CF:=af (hf W ai);have B0:Hid (Below W.heap.size W W):=af ai;have k0:=hb.cell;unfold qD at*)
 unfold gY at ef;go_enter func194,ntmps194;go_wp2_with fail
 refine CF.mono ?_;rintro e w1 ⟨rfl,hb1⟩;have HB:=af (B0.trans (hb1.mono B0.size));clear hb1;go_wp2_with fail;go_ret;exact⟨rfl,HB.out⟩
theorem Ej(f:FuncId)(cap:Array Value)(pb:Int->Bool){w:World}{a:Option Addr}{n c:Nat}{l:List Int}(h:aW jD 1 w a n c l)(ef:gY f)(hf:∀W x,x∈l->Below w.heap.size w W->Calls prog f (#[qD x]++cap) W (dD (pb x) W)):
  Calls prog 144 #[.slice a n c,.func (.func f) #[] cap] w (dD (dL l pb) w):=by
 have wA:∀(fn:Fn)(first cap:Array Value)(w:World),(Instr.makeFunc fn first cap).run prog w=.ok (.func fn first cap) w:=fun _ _ _ _=>rfl;have HL:l.length=n:=h.len;obtain⟨W0,hW0⟩:=ae (w.alloc (.cells #[.func (.func f) #[] cap] 110));have b0:Below w.heap.size w W0:=by rw[<-hW0];exact ai.alloc ah _
 have x0:Boxed W0 w.heap.size 110 (.func (.func f) #[] cap):=by rw[<-hW0];exact Boxed.new _ _ _
 have CA:=af (FK 194 #[.pointer (some ⟨w.heap.size,0,none⟩)] (fun x=> !pb x) (h.ag b0) (enters_of func194 (by kernel_rfl) rfl) (fun W x hx hb=>A9 f cap (pb x) x w.heap.size W ef (aF x0 hb) (fun W' hb'=>hf W' x hx ((b0.trans (hb.mono b0.size)).trans (hb'.mono (b0.trans (hb.mono b0.size)).size)))));have hall:dL l pb=(decide (1<=n)&&decide (n<=8)&& !(l.any fun x=> !pb x)):=by unfold dL;rw[HL,List.not_any_eq_all_not];simp
 obtain⟨q,hq⟩:=ae (l.any fun x=> !pb x);rw[hq]at CA hall;rw[hall];have B0:=af b0;clear hq hall HL h hf b0 x0;by_cases h1:1<=n
 ·have d1:decide (1<=(n:Int))=true:=decide_eq_true (by omega);by_cases h8:n<=8
  ·have d8:decide ((n:Int)<=8)=true:=decide_eq_true (by omega);go_enter func144,ntmps144;go_wp2_with fail
   refine CA.mono ?_;rintro e w1 ⟨rfl,hb1⟩;have HB:=af (B0.trans (hb1.mono B0.size));clear hb1;go_wp2_with fail;go_ret;exact⟨by simp[h1,h8],HB.out⟩
  have d8:decide ((n:Int)<=8)=false:=decide_eq_false (by omega);go_enter func144,ntmps144;go_wp2_with fail
  go_ret;exact⟨by simp[h8],B0.out⟩
 have d1:decide (1<=(n:Int))=false:=decide_eq_false (by omega);go_enter func144,ntmps144;go_wp2_with fail
 go_ret;exact⟨by simp[h1],B0.out⟩
theorem Bd(f:FuncId)(cap:Array Value)(b:Bool)(x:(List UInt8))(bx:Nat)(W:World)(ef:gY f)(hb:Boxed W bx 184 (.func (.func f) #[] cap))(hf:∀W',Below W.heap.size W W'->Calls prog f (#[vh x]++cap) W' (dD b W')):Calls prog 196 #[vh x,.pointer (some ⟨bx,0,none⟩)] W (dD (!b) W):=by
 (have CF:=af (hf W ai);have B0:Hid (Below W.heap.size W W):=af ai;have k0:=hb.cell;unfold vh at*)
 unfold gY at ef;go_enter func196,ntmps196;go_wp2_with fail
 refine CF.mono ?_;rintro e w1 ⟨rfl,hb1⟩;have HB:=af (B0.trans (hb1.mono B0.size));clear hb1;go_wp2_with fail;go_ret;exact⟨rfl,HB.out⟩
theorem Ek(f:FuncId)(cap:Array Value)(pb:(List UInt8)->Bool){w:World}{a:Option Addr}{n c:Nat}{l:List (List UInt8)}(h:aW uV 1 w a n c l)(ef:gY f)(hf:∀W x,x∈l->Below w.heap.size w W->Calls prog f (#[vh x]++cap) W (dD (pb x) W)):
  Calls prog 152 #[.slice a n c,.func (.func f) #[] cap] w (dD (dL l pb) w):=by
 have wA:∀(fn:Fn)(first cap:Array Value)(w:World),(Instr.makeFunc fn first cap).run prog w=.ok (.func fn first cap) w:=fun _ _ _ _=>rfl;have HL:l.length=n:=h.len;obtain⟨W0,hW0⟩:=ae (w.alloc (.cells #[.func (.func f) #[] cap] 184));have b0:Below w.heap.size w W0:=by rw[<-hW0];exact ai.alloc ah _
 have x0:Boxed W0 w.heap.size 184 (.func (.func f) #[] cap):=by rw[<-hW0];exact Boxed.new _ _ _
 have CA:=af (Pd 196 #[.pointer (some ⟨w.heap.size,0,none⟩)] (fun x=> !pb x) (h.ag b0) (enters_of func196 (by kernel_rfl) rfl) (fun W x hx hb=>Bd f cap (pb x) x w.heap.size W ef (aF x0 hb) (fun W' hb'=>hf W' x hx ((b0.trans (hb.mono b0.size)).trans (hb'.mono (b0.trans (hb.mono b0.size)).size)))));have hall:dL l pb=(decide (1<=n)&&decide (n<=8)&& !(l.any fun x=> !pb x)):=by unfold dL;rw[HL,List.not_any_eq_all_not];simp
 obtain⟨q,hq⟩:=ae (l.any fun x=> !pb x);rw[hq]at CA hall;rw[hall];have B0:=af b0;clear hq hall HL h hf b0 x0;by_cases h1:1<=n
 ·have d1:decide (1<=(n:Int))=true:=decide_eq_true (by omega);by_cases h8:n<=8
  ·have d8:decide ((n:Int)<=8)=true:=decide_eq_true (by omega);go_enter func152,ntmps152;go_wp2_with fail
   refine CA.mono ?_;rintro e w1 ⟨rfl,hb1⟩;have HB:=af (B0.trans (hb1.mono B0.size));clear hb1;go_wp2_with fail;go_ret;exact⟨by simp[h1,h8],HB.out⟩
  have d8:decide ((n:Int)<=8)=false:=decide_eq_false (by omega);go_enter func152,ntmps152;go_wp2_with fail
  go_ret;exact⟨by simp[h8],B0.out⟩
 have d1:decide (1<=(n:Int))=false:=decide_eq_false (by omega);go_enter func152,ntmps152;go_wp2_with fail
 go_ret;exact⟨by simp[h1],B0.out⟩
theorem yY(f:FuncId)(cap:Array Value)(b:Bool)(x:bM)(bx:Nat)(W:World)(ef:gY f)(hb:Boxed W bx 191 (.func (.func f) #[] cap))(hf:∀W',Below W.heap.size W W'->Calls prog f (#[vP x]++cap) W' (dD b W')):Calls prog 189 #[vP x,.pointer (some ⟨bx,0,none⟩)] W (dD (!b) W):=by
 (obtain⟨W0,hW0⟩:=ae (W.alloc (.cells #[.string ⟨x.filter.toArray⟩,.int .i64 x.qos] 169)));have b0:Below W.heap.size W W0:=(by subst hW0;exact ai.alloc ah _);have x0:ar W0 W.heap.size #[.string ⟨x.filter.toArray⟩,.int .i64 x.qos] 169:=(by subst hW0;exact ar.new _ _ _);have CF:=af (hf W0 b0);have B0:=af b0;have k0:=(aF hb b0).cell;unfold vP at*
 unfold gY at ef;go_enter func189,ntmps189;go_wp2_with (refine wL 169 rfl rfl x0 underlying169 ?_)
 refine CF.out.mono ?_;rintro e w1 ⟨rfl,hb1⟩;have HB:=af (B0.trans (hb1.mono B0.size));clear hb1;go_wp2_with fail;go_ret;exact⟨rfl,HB.out⟩
theorem Be(f:FuncId)(cap:Array Value)(pb:bM->Bool){w:World}{a:Option Addr}{n c:Nat}{l:List bM}(h:aW bM.cl 2 w a n c l)(ef:gY f)(hf:∀W x,x∈l->Below w.heap.size w W->Calls prog f (#[vP x]++cap) W (dD (pb x) W)):
  Calls prog 133 #[.slice a n c,.func (.func f) #[] cap] w (dD (dL l pb) w):=by
 have wA:∀(fn:Fn)(first cap:Array Value)(w:World),(Instr.makeFunc fn first cap).run prog w=.ok (.func fn first cap) w:=fun _ _ _ _=>rfl;have HL:l.length=n:=h.len;obtain⟨W0,hW0⟩:=ae (w.alloc (.cells #[.func (.func f) #[] cap] 191));have b0:Below w.heap.size w W0:=by rw[<-hW0];exact ai.alloc ah _
 have x0:Boxed W0 w.heap.size 191 (.func (.func f) #[] cap):=by rw[<-hW0];exact Boxed.new _ _ _
 have CA:=af (Mg 189 #[.pointer (some ⟨w.heap.size,0,none⟩)] (fun x=> !pb x) (h.ag b0) (enters_of func189 (by kernel_rfl) rfl) (fun W x hx hb=>yY f cap (pb x) x w.heap.size W ef (aF x0 hb) (fun W' hb'=>hf W' x hx ((b0.trans (hb.mono b0.size)).trans (hb'.mono (b0.trans (hb.mono b0.size)).size)))));have hall:dL l pb=(decide (1<=n)&&decide (n<=8)&& !(l.any fun x=> !pb x)):=by unfold dL;rw[HL,List.not_any_eq_all_not];simp
 obtain⟨q,hq⟩:=ae (l.any fun x=> !pb x);rw[hq]at CA hall;rw[hall];have B0:=af b0;clear hq hall HL h hf b0 x0;by_cases h1:1<=n
 ·have d1:decide (1<=(n:Int))=true:=decide_eq_true (by omega);by_cases h8:n<=8
  ·have d8:decide ((n:Int)<=8)=true:=decide_eq_true (by omega);go_enter func133,ntmps133;go_wp2_with fail
   refine CA.mono ?_;rintro e w1 ⟨rfl,hb1⟩;have HB:=af (B0.trans (hb1.mono B0.size));clear hb1;go_wp2_with fail;go_ret;exact⟨by simp[h1,h8],HB.out⟩
  have d8:decide ((n:Int)<=8)=false:=decide_eq_false (by omega);go_enter func133,ntmps133;go_wp2_with fail
  go_ret;exact⟨by simp[h8],B0.out⟩
 have d1:decide (1<=(n:Int))=false:=decide_eq_false (by omega);go_enter func133,ntmps133;go_wp2_with fail
 go_ret;exact⟨by simp[h1],B0.out⟩
theorem Pf(c:Int)(W:World):Calls prog 145 #[.int .i64 c] W (dD (cY c) W):=by
 have CQ:=af (yS c W);unfold cY;obtain⟨b,hb⟩:=ae (within c 0 2);rw[hb]at CQ ⊢;clear hb;by_cases h:c=128
 ·subst h;go_enter func145,ntmps145;go_wp2_with fail
  refine CQ.mono ?_;rintro e w1 ⟨rfl,rfl⟩;cases b<;>
  ·go_wp2_with fail
   go_ret;exact⟨by simp,Below.refl _ _⟩
 have d:(c==128)=false:=by simpa using h
 go_enter func145,ntmps145;go_wp2_with fail
 refine CQ.mono ?_;rintro e w1 ⟨rfl,rfl⟩;cases b<;>
 ·go_wp2_with fail
  go_ret;exact⟨by simp[h],Below.refl _ _⟩
theorem Pg(x:bM)(W:World)(hs:x.filter.length<=2000000):Calls prog 134 #[vP x] W (dD (cI x) W):=by
 unfold vP;obtain⟨W0,hW0⟩:=ae (W.alloc (.cells #[.string ⟨x.filter.toArray⟩,.int .i64 x.qos] 169));have b0:Below W.heap.size W W0:=by rw[<-hW0];exact ai.alloc ah _
 have x0:ar W0 W.heap.size #[.string ⟨x.filter.toArray⟩,.int .i64 x.qos] 169:=by rw[<-hW0];exact ar.new _ _ _
 have k0:W0.cell? ⟨W.heap.size,0,none⟩=some (.string ⟨x.filter.toArray⟩):=x0.cell 0;have CT:=af (oG x.filter W0 hs);have CQ:=af (yS x.qos);unfold cI;obtain⟨fv,hfv⟩:=ae (bU x.filter);obtain⟨b,hb⟩:=ae (within x.qos 0 2);rw[hfv]at CT ⊢;rw[hb]at CQ ⊢;have X0:=af x0;have B0:=af b0;clear hb hfv x0 b0;go_enter func134,ntmps134;go_wp2_with fail
 refine CT.mono ?_;rintro e w1 ⟨rfl,hb1⟩;have k1:w1.cell? ⟨W.heap.size,1,none⟩=some (.int .i64 x.qos):=(X0.ag hb1).cell 1;have B1:=af (B0.trans (hb1.mono B0.size));clear hb1 k0;cases fv with
 |false=>
  go_wp2_with fail
  go_ret;exact⟨rfl,B1.out⟩
 | true=>
  go_wp2_with fail
  refine(CQ _).mono ?_;rintro e w2 ⟨rfl,rfl⟩;cases b<;>
  ·go_wp2_with fail
   go_ret;exact⟨rfl,B1.out⟩
end
end Go.Proofs.YtkghejaimhoboaaGreatDoor
