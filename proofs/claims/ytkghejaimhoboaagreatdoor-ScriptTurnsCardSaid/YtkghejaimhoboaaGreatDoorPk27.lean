/- Parts of the proof of ScriptTurns. -/
import Derived.Test.YtkghejaimhoboaaGreatDoorPk25
import Derived.Test.YtkghejaimhoboaaGreatDoorPk23
set_option linter.unusedSimpArgs false
set_option linter.unusedVariables false
set_option maxRecDepth 100000
set_option maxHeartbeats 8000000
namespace Go.Proofs.YtkghejaimhoboaaGreatDoor
open Go.RowKit Go.Shelf Go.Proofs.Tryz
section
attribute [local go_sem] Oper.semAt_some
def FM(C:bT)(p:Pk)(h:H3):Prop:=∀W,p.In W h->aZ p->Calls prog 54 #[.agg (p.cells h).toArray] W fun e w'=>∃v,e=.returned (.tuple #[v,.int .i64 0])/\w'.ownsRow W.heap.size 5 1 v (C.raw p).length (bs (C.raw p))/\Below W.heap.size W w'
theorem qI{F:List Nat}{p:Nat}{l:List UInt8}{W:World}{e:Ending}{w':World}(hW:Wr W F p l)(hl:l.length<=65536)(h:e=.returned (.tuple #[])/\Below W.heap.size W w'):wK F p l [] W e w':=
 ⟨F,gO.ag h.2,.inl ⟨by unfold fits;rw[decide_eq_true_eq];simpa using hl,h.1,by rw[List.append_nil];exact hW.ag h.2⟩⟩
theorem Ih(C:bT){w:World}{F:List Nat}{p:Nat}{l:List UInt8}(h:Wr w F p l)(hl:l.length<=65536)(x:dE)(cd:x.t.In w x.h x.hp)(hr:aZ x.t.pk)(hP:FM C x.t.pk x.h):
  Calls prog 53 #[.agg #[.pointer (some ⟨p,0,none⟩)],.agg x.cells.toArray] w (wK F p l (aI (C.raw x.t.pk)) w):=by
 obtain⟨cs,hcs⟩:=ae x.cells.toArray;obtain⟨W0,hW0⟩:=ae ((w.alloc (.cells #[.pointer (some ⟨p,0,none⟩)] 102)).alloc (.cells cs 55));have b1:ar W0 w.heap.size #[.pointer (some ⟨p,0,none⟩)] 102:=by rw[<-hW0];exact(ar.new _ _ _).alloc _
 have b2:ar W0 (w.heap.size+1) cs 55:=by rw[<-hW0];have:=ar.new (w.alloc (.cells #[.pointer (some ⟨p,0,none⟩)] 102)) cs 55;simpa using this
 have B0:Below w.heap.size w W0:=by rw[<-hW0];exact(ai.alloc ah _).alloc (by simp) _
 have kr:W0.rangeAt (w.heap.size+1) 2 (x.t.pk.cells x.h):=by have h1:=b2;rw[<-hcs]at h1;exact h1.mid [.int .i64 x.t.kind,.int .i64 x.t.conn] (x.t.pk.cells x.h) [.string ⟨x.t.bytes.toArray⟩,.int .i64 x.t.arm,.int .i64 x.t.n,.slice x.hp.a x.hp.n x.hp.c] (Tn.Ae x.t x.h x.hp)
 have CP:=af (hP W0 (cd.ag B0).pk hr);have hlen:=af (C.len _ hr);obtain⟨m,hm⟩:=ae (C.raw x.t.pk);obtain⟨pc,bt⟩:=ae (x.t.pk.cells x.h);have hpl:Hid ((prog.info? 52).map (·.size)=some pc.length):=af (by rw[<-bt];exact(by kernel_rfl:(prog.info? 52).map (·.size)=some 24));rw[hm]at CP hlen ⊢;rw[bt]at kr CP;have S0:=af (gO.ag (F:=F) B0);have HW:=af (h.ag B0);have gH:=af b1;rw[hcs];clear hcs b2 B0 hm bt cd hr hP h b1;replace hl:=af hl;go_enter func53,ntmps53;go_wp2_with (refine sF 52 rfl rfl kr underlying52 ?_ rfl rfl hpl.out)
 refine CP.mono ?_;rintro e w1 ⟨v,rfl,hv,hb1⟩;obtain⟨av,cv,rfl,hrow⟩:=ax.gK hv;have KM:=dX hrow;have bx:=gH.ag hb1;have CT:=af (vd (HW.ag hb1) hl.out m (by have:=hlen.out;omega));have S1:=af (S0.trans (gO.ag (F:=F) hb1));clear hv hrow hb1 kr;go_wp2_with (refine wL 102 rfl rfl bx underlying102 ?_);refine CT.mono ?_;rintro e w2 ⟨F1,hs1,⟨⟨_,hf⟩,rfl,bL⟩ | ⟨hf,rfl⟩⟩
 ·have H:=af (show wK F p l (aI m) w (.returned (.tuple #[])) w2 from⟨F1,S1.trans hs1,.inl ⟨hf,rfl,bL⟩⟩);clear hs1 hf bL;go_wp2_with fail
  go_end0
  exact H.out
 refine⟨rfl,⟨F1,S1.trans hs1,.inr ⟨?_,rfl⟩⟩⟩;cases hx:fits l (aI m)with
 | false=>rfl
 | true=>exact absurd ⟨by have:=hlen.out;omega,hx⟩ hf
theorem DZ(C:bT)(w0:World)(x:dE)(hx:x.t.In w0 x.h x.hp)(hr:eh x.t)(h2:x.t.kind=2->FM C x.t.pk x.h):jr C w0 x:=fun c v hv=>by
 have OI:=iT hr;have hm:=hr.1;obtain⟨k,hk⟩:=ae x.t.kind;rw[hk]at hv h2 OI;unfold mf at hm;rw[hk]at hm;have lC:∀F:List Nat,(∀b∈F,w0.heap.size<=b)->x.t.bf≠[]->∀y,x.hp.a=some y->y.block∉F:=fun F hF hne y hy PV=>by obtain⟨z,hz⟩:∃z,x.t.bf[0]?=some z:=⟨_,List.getElem?_eq_getElem (List.length_pos_iff.2 hne)⟩;obtain⟨g,off,e,hg, -⟩:=hx.p.eM 0 z hz;rw[hy]at e;cases e;have:=hF _ PV;dsimp only at this;omega
 have:k=1\/k=2\/k=3\/k=4\/k=5\/k=6\/k=7\/k=8:=by omega
 rcases this with rfl | rfl | rfl | rfl | rfl | rfl | rfl | rfl
 ·obtain rfl:sD=v:=Option.some.inj hv;refine⟨_,_,_,_,_,_,_,_,rfl,enters_of func47 (by kernel_rfl) rfl,fun W F p l hB hW hl hF=>?_⟩;have D1:dC C x.t=[]:=by unfold dC;simp[hk]
  rw[D1];exact(lv _ _ W).mono fun e w' h=>qI hW hl h
 ·obtain rfl:Ov c=v:=Option.some.inj hv;have yM:aZ x.t.pk:=by simp at hm;exact hm.2
  refine⟨_,_,_,_,_,_,_,_,rfl,enters_of func53 (by kernel_rfl) rfl,fun W F p l hB hW hl hF=>?_⟩;have D1:dC C x.t=aI (C.raw x.t.pk):=by unfold dC;simp[hk]
  rw[D1];exact Ih C hW hl x (hx.ag hB) yM (h2 rfl)
 ·obtain rfl:yx c=v:=Option.some.inj hv;refine⟨_,_,_,_,_,_,_,_,rfl,enters_of func60 (by kernel_rfl) rfl,fun W F p l hB hW hl hF=>?_⟩;have D1:dC C x.t=aI x.t.bytes:=by unfold dC;simp[hk]
  rw[D1];exact DG hW hl x.t x.h x.hp (by(simp at hm;omega))
 ·obtain rfl:sD=v:=Option.some.inj hv;refine⟨_,_,_,_,_,_,_,_,rfl,enters_of func47 (by kernel_rfl) rfl,fun W F p l hB hW hl hF=>?_⟩;have D1:dC C x.t=[]:=by unfold dC;simp[hk]
  rw[D1];exact(lv _ _ W).mono fun e w' h=>qI hW hl h
 ·obtain rfl:jc=v:=Option.some.inj hv;refine⟨_,_,_,_,_,_,_,_,rfl,enters_of func47 (by kernel_rfl) rfl,fun W F p l hB hW hl hF=>?_⟩;have D1:dC C x.t=[]:=by unfold dC;simp[hk]
  rw[D1];exact(lv _ _ W).mono fun e w' h=>qI hW hl h
 ·obtain rfl:jc=v:=Option.some.inj hv;refine⟨_,_,_,_,_,_,_,_,rfl,enters_of func47 (by kernel_rfl) rfl,fun W F p l hB hW hl hF=>?_⟩;have D1:dC C x.t=[]:=by unfold dC;simp[hk]
  rw[D1];exact(lv _ _ W).mono fun e w' h=>qI hW hl h
 ·obtain rfl:Ow=v:=Option.some.inj hv;refine⟨_,_,_,_,_,_,_,_,rfl,enters_of func64 (by kernel_rfl) rfl,fun W F p l hB hW hl hF=>?_⟩;have D1:dC C x.t=ay 1 x.t.arm.toNat++ay 2 (x.t.n+1).toNat:=by unfold dC;simp[hk]
  rw[D1];exact DI hW hl x.t x.h x.hp (by(simp at hm;omega)) (by(simp at hm;omega))
 obtain rfl:yy=v:=Option.some.inj hv;refine⟨_,_,_,_,_,_,_,_,rfl,enters_of func71 (by kernel_rfl) rfl,fun W F p l hB hW hl hF=>?_⟩;have D1:dC C x.t=ay 1 x.t.bf.length++x.t.bf.flatMap (fun z=>ay 1 z.toNat):=by unfold dC;simp[hk]
 rw[D1];exact DJ hW hl x.t x.h x.hp (hx.p.ag hB) (fun hne y hy PV=>lC F hF hne y hy PV) (by(simp at hm;omega)) (by(simp at hm;exact hm.2))
def jd:Array Value:=(bE [120] 0 1).vals
theorem A1:∀v∈jd.toList,v.oneCell'=true:=by decide
def D7(wi ro:Int):Array Value:=#[.string ⟨#[120]⟩,.int .i64 wi,.int .i64 ro,.int .i64 0,.int .i64 1,.slice none 0 0,.slice none 0 0,.slice none 0 0]
def tR:Array Value:=#[.string ⟨#[]⟩,.int .i64 0,.int .i64 0,.int .i64 0,.int .i64 0,.slice none 0 0,.slice none 0 0,.slice none 0 0]
theorem qL(wi ro:Int):∀v∈(D7 wi ro).toList,v.oneCell'=true:=by simp[D7,Value.oneCell']
theorem n7:∀v∈tR.toList,v.oneCell'=true:=by decide
theorem D8(wi ro:Int)(w:World):Calls prog 174 #[.agg (D7 wi ro)] w fun e w'=>e=.returned (.int .i64 0)/\Below w.heap.size w w':=by
 have hB:=af (ar.new w (D7 wi ro) 126);have k5:(w.alloc (.cells (D7 wi ro) 126)).cell? ⟨w.heap.size,5,none⟩=some (.slice none 0 0):=hB.cell 5;go_enter func174,ntmps174;go_wp2_with fail
 go_loopw [3,4] (fun n i wr=>n=.int .i64 0/\i=.int .i64 0/\wr=w.alloc (.cells (D7 wi ro) 126)) (fun _ _ _=>0)
 case atStart=>exact⟨rfl,rfl,rfl⟩
 case round=>
  obtain⟨rfl,rfl,rfl⟩:=hrel;go_wp2_with fail
  go_ret;exact⟨rfl,(Below.refl _ w).alloc ah _⟩
structure Xv (f:Bool->Array Value)(R:Prop)(w:World)(e:Ending)(w':World):Prop where
 out:∃b:Bool,e=.returned (.tuple #[.agg (f b),.bool b])/\(b=true↔R)
 ag:Below w.heap.size w w'
theorem FY(wi ro:Int)(w:World):Calls prog 108 #[.int .i64 wi,.int .i64 ro,.agg jd,.slice none 0 0] w (Xv (fun b=>if b then D7 wi ro else tR) ((1<=wi/\wi<=100)/\(1<=ro/\ro<=1000)) w):=by
 have hR:ar ((w.alloc (.cells jd 136)).alloc (.cells tR 126)) w.heap.size jd 136:=(ar.new _ _ _).alloc _;have hZ:Hid (ar ((w.alloc (.cells jd 136)).alloc (.cells tR 126)) (w.heap.size+1) tR 126):=af (ar.jb _ _ _ _ (by simp));have b0:Hid (Below w.heap.size w ((w.alloc (.cells jd 136)).alloc (.cells tR 126))):=af ((ai.alloc ah _).alloc (by simp) _);have k0:((w.alloc (.cells jd 136)).alloc (.cells tR 126)).cell? ⟨w.heap.size,0,none⟩=some (.int .i64 1):=hR.cell 0;have hRh:=af hR;unfold tR at k0 hR;go_enter func108,ntmps108;by_cases q1:wi<1
 ·have d1:decide (wi<1)=true:=decide_eq_true q1;go_wp2_with (refine wS 126 8 rfl (w.heap.size+1) _ tR rfl rfl hZ.out rfl rfl n7 ?_;intro w9 cC dN)
  refine bodyPost_ret (aS results108 rfl (aj cC 126 underlying126 rfl (by kernel_rfl)) rfl) rfl ?_;exact⟨⟨false,rfl,by simp;omega⟩,b0.trans (dN.ag b0.size (by simp))⟩
 have d1:decide (wi<1)=false:=decide_eq_false q1;by_cases q2:100<wi
 ·have d2:decide (100<wi)=true:=decide_eq_true q2;go_wp2_with (refine wS 126 8 rfl (w.heap.size+1) _ tR rfl rfl hZ.out rfl rfl n7 ?_;intro w9 cC dN)
  refine bodyPost_ret (aS results108 rfl (aj cC 126 underlying126 rfl (by kernel_rfl)) rfl) rfl ?_;exact⟨⟨false,rfl,by simp;omega⟩,b0.trans (dN.ag b0.size (by simp))⟩
 have d2:decide (100<wi)=false:=decide_eq_false q2;by_cases q3:ro<1
 ·have d3:decide (ro<1)=true:=decide_eq_true q3;go_wp2_with (refine wS 126 8 rfl (w.heap.size+1) _ tR rfl rfl hZ.out rfl rfl n7 ?_;intro w9 cC dN)
  refine bodyPost_ret (aS results108 rfl (aj cC 126 underlying126 rfl (by kernel_rfl)) rfl) rfl ?_;exact⟨⟨false,rfl,by simp;omega⟩,b0.trans (dN.ag b0.size (by simp))⟩
 have d3:decide (ro<1)=false:=decide_eq_false q3;by_cases q4:1000<ro
 ·have d4:decide (1000<ro)=true:=decide_eq_true q4;go_wp2_with (refine wS 126 8 rfl (w.heap.size+1) _ tR rfl rfl hZ.out rfl rfl n7 ?_;intro w9 cC dN)
  refine bodyPost_ret (aS results108 rfl (aj cC 126 underlying126 rfl (by kernel_rfl)) rfl) rfl ?_;exact⟨⟨false,rfl,by simp;omega⟩,b0.trans (dN.ag b0.size (by simp))⟩
 have d4:decide (1000<ro)=false:=decide_eq_false q4;have d5:decide (ro<0)=false:=decide_eq_false (by omega);have d6:decide (0<=wi)=true:=decide_eq_true (by omega);go_wp2_with (refine LG 136 rfl rfl hR underlying136 rfl ?_ (by kernel_rfl))
 refine(uZ [120] 0 1 _ (by kernel_rfl) (by decide) (by decide)).mono ?_;rintro e w1 ⟨rfl,hb1⟩;have jP:=hRh.ag hb1;have k1:w1.cell? ⟨w.heap.size,1,none⟩=some (.string ⟨#[120]⟩):=jP.cell 1;have k2:w1.cell? ⟨w.heap.size,2,none⟩=some (.int .i64 0):=jP.cell 2;have k3:w1.cell? ⟨w.heap.size,3,none⟩=some (.int .i64 1):=jP.cell 3;have B1:=af (b0.trans (hb1.mono b0.size));have Z1:=af (hZ.ag hb1);clear hb1 hR jP k0 hRh;have BN:=ar.new w1 tR 126;unfold tR at BN;go_upto_region 4 with(refine wS 126 8 rfl w1.heap.size _ (D7 wi ro) rfl rfl BN rfl rfl (qL wi ro) ?_;intro w3 hw3 hr3)
 have B3:=af ((B1.alloc B1.size _).trans (hr3.ag (by have:=B1.size;simp;omega) (by have:=B1.size;simp;omega)));have Z3:=af ((Z1.alloc (.cells tR 126)).aw hr3 (by have:=Z1.lt;simp;omega));have hne:Hid (w1.heap.size≠w.heap.size+1):=af (by have:=Z1.lt;omega);obtain⟨g,hg⟩:=ae w1.heap.size;rw[hg]at hw3 hne ⊢;have hw3:=af hw3;clear hr3 BN k1 k2 k3 hg Z1 B1;go_wp2_with fail;go_loopw [11] (fun i wr=>i=.int .i64 0/\wr=w3) (fun _ _=>0)
 case atStart=>exact⟨rfl,rfl⟩
 case round=>
  obtain⟨rfl,rfl⟩:=hrel;go_upto_region 21 with fail
  try simp only[PT]
  refine aH [(1000,fun w'=>ar w' g (D7 wi ro) 126)] (by kernel_rfl) ⟨hw3.out,trivial⟩ fun KQ aL=>?_;try simp only[PT]
  refine lR 0 0 rfl rfl rfl rfl (fun w' hf=>aM hf 126 underlying126 rfl (by kernel_rfl)) ?_;simp only[PT];refine lR 1 0 rfl rfl rfl rfl (fun w' hf=>aM hf 126 underlying126 rfl (by kernel_rfl)) ?_;simp only[PT];refine tQ [3] ?_;refine sQ 2 fun K hK=>?_;simp only[GO];go_simp;refine(D8 wi ro _).mono ?_;rintro e w5 ⟨rfl,eF⟩;have W5:=hw3.drew.ag eF;have Z5:=Z3.drew.ag eF;have B5:=B3.drew.trans (eF.mono B3.drew.size);refine hK _ _ ⟨⟨fun _=>W5,trivial⟩,?_⟩;clear hK K;try simp only[PT]
  refine tQ [4] ?_;refine sQ 5 fun K hK=>?_;simp only[GO];refine wW 126 8 rfl (w.heap.size+1) _ (D7 wi ro) rfl rfl Z5 rfl rfl (qL wi ro) fun w6 h6 g6=>?_;refine hK _ _ ⟨⟨fun _=>W5.aw g6 (by simpa using hne.out),trivial⟩,?_⟩;clear hK K;try simp only[PT]
  refine tQ [6] ?_;refine dQ (aL.out _ _ ?_);clear aL KQ;go_wp2;refine bodyPost_ret (aS results108 rfl (aj h6 126 underlying126 rfl (by kernel_rfl)) rfl) rfl ?_;exact⟨⟨true,rfl,by simp;omega⟩,B5.trans (g6.ag B5.size (by simp))⟩
def Ci(wi ro ib sb:Int):Array Value:=#[.int .i64 wi,.int .i64 ro,.int .i64 ib,.int .i64 sb]
def F8(wi ro ib sb:Int):Array Value:=#[.int .i64 wi,.int .i64 ro,.int .i64 ib,.int .i64 sb,.string ⟨#[]⟩,.int .i64 0,.int .i64 0,.int .i64 0,.int .i64 0,.slice none 0 0,.slice none 0 0,.slice none 0 0,.slice none 0 0,.slice none 0 0,.bool false,.bool false,.int .i64 0,.int .i64 0,.string ⟨#[]⟩,.string ⟨#[]⟩,.int .i64 0,.bool false]
def QV(wi ro ib sb:Int):Array Value:=#[.int .i64 wi,.int .i64 ro,.int .i64 ib,.int .i64 sb,.string ⟨#[120]⟩,.int .i64 wi,.int .i64 ro,.int .i64 0,.int .i64 1,.slice none 0 0,.slice none 0 0,.slice none 0 0,.slice none 0 0,.slice none 0 0,.bool false,.bool false,.int .i64 0,.int .i64 0,.string ⟨#[]⟩,.string ⟨#[]⟩,.int .i64 0,.bool false]
theorem mq(wi ro ib sb:Int):∀v∈(F8 wi ro ib sb).toList,v.oneCell'=true:=by simp[F8,Value.oneCell']
theorem Ga(wi ro ib sb:Int):∀v∈(QV wi ro ib sb).toList,v.oneCell'=true:=by simp[QV,Value.oneCell']
structure S3 (w:World)(xs ss:Array Value)(W:World):Prop where
 low:Below w.heap.size w W
 bx:ar W w.heap.size xs 25
 br:ar W (w.heap.size+1) zS 130
 bs:ar W (w.heap.size+1+1) ss 130
theorem S3.size{w:World}{xs ss:Array Value}{W:World}(h:S3 w xs ss W):w.heap.size+3<=W.heap.size:=h.bs.lt
theorem S3.step{w:World}{xs ss:Array Value}{W W':World}(h:S3 w xs ss W)(hb:Below W.heap.size W W'):S3 w xs ss W':=⟨h.low.trans (hb.mono h.low.size),h.bx.ag hb,h.br.ag hb,h.bs.ag hb⟩
theorem S3.put{w:World}{xs ss ss':Array Value}{W W':World}(h:S3 w xs ss W)(hb:ar W' (w.heap.size+1+1) ss' 130)(hw:ak [w.heap.size+1+1] W W'):S3 w xs ss' W':=
 ⟨h.low.trans (hw.ag h.low.size (by simp;omega)),h.bx.aw hw (by simp;omega),h.br.aw hw (by simp),hb⟩
theorem S3.wrote{w:World}{xs ss:Array Value}{W W':World}{M:List Nat}(h:S3 w xs ss W)(hw:ak M W W')(hM:∀x∈M,w.heap.size+3<=x):S3 w xs ss W':=
 ⟨h.low.trans (hw.ag h.low.size (fun x hx=>by have:=hM x hx;omega)),h.bx.aw hw (fun hx=>by have:=hM _ hx;omega),h.br.aw hw (fun hx=>by have:=hM _ hx;omega),h.bs.aw hw (fun hx=>by have:=hM _ hx;omega)⟩
theorem S3.grow{w:World}{xs ss:Array Value}{W W':World}{r:Option Nat}(h:S3 w xs ss W)(hg:W.grownBy W' r)(hr:∀g,r=some g->w.heap.size+3<=g):S3 w xs ss W':=
 h.wrote (ak.ep hg (M:=r.toList) (fun k hk=>by simp[hk])) (fun x hx=>hr x (by simpa using hx))
theorem Mf(wi ro ib sb:Int)(W:World):(Instr.build 130 #[(0,.agg (Ci wi ro ib sb))]).run prog W=.ok (.agg (F8 wi ro ib sb)) W:=by kernel_rfl
structure Of1 (w:World)(wi ro ib sb:Int)(ob:Nat)(b:Bool)(W:World):Prop where
 s:S3 w (Ci wi ro ib sb) (F8 wi ro ib sb) W
 box:ar W ob (if b then D7 wi ro else tR) 126
 lo:w.heap.size+3<=ob
 iff:b=true↔(1<=wi/\wi<=100)/\(1<=ro/\ro<=1000)
theorem Pc(wi ro ib sb:Int)(g:Nat)(w:World)(hg:ar w g jd 136):Calls prog 83 #[.agg (Ci wi ro ib sb),.slice (some ⟨g,0,none⟩) 1 1] w (Xv (fun b=>if b then QV wi ro ib sb else F8 wi ro ib sb) ((1<=wi/\wi<=100)/\(1<=ro/\ro<=1000)/\(1<=ib/\ib<=1000)/\(1<=sb/\sb<=100)) w):=by
 have x1:ar ((w.alloc (.cells (Ci wi ro ib sb) 25)).alloc (.cells zS 130)) w.heap.size (Ci wi ro ib sb) 25:=(ar.new _ _ _).alloc _;have r1:ar ((w.alloc (.cells (Ci wi ro ib sb) 25)).alloc (.cells zS 130)) (w.heap.size+1) zS 130:=ar.jb _ _ _ _ (by simp);have s2:ar (((w.alloc (.cells (Ci wi ro ib sb) 25)).alloc (.cells zS 130)).alloc (.cells zS 130)) (w.heap.size+1+1) zS 130:=ar.jb _ _ _ _ (by simp);have S0:=af (show S3 w (Ci wi ro ib sb) zS _ from⟨((ai.alloc ah _).alloc (by simp) _).alloc (by simp;omega) _,x1.alloc _,r1.alloc _,s2⟩);have HG:=af (fun W (h:Below w.heap.size w W)=>hg.ag h);clear r1 hg;unfold zS at x1 s2;go_enter func83,ntmps83;go_upto_region 2 with(first
  | (refine wL 25 rfl rfl x1 underlying25 ?_)
  | (refine iH 130 rfl #[(0,.agg (Ci wi ro ib sb))] rfl (.agg (F8 wi ro ib sb)) (Mf wi ro ib sb) ?_)
  | (refine wS 130 22 rfl (w.heap.size+1+1) _ (F8 wi ro ib sb) rfl rfl s2 rfl rfl (mq wi ro ib sb) ?_;intro w3 hw3 hr3))
 have SS:=S0.put hw3 hr3;have k0:w3.cell? ⟨w.heap.size,0,none⟩=some (.int .i64 wi):=SS.bx.cell 0;have k1:w3.cell? ⟨w.heap.size,1,none⟩=some (.int .i64 ro):=SS.bx.cell 1;have k2:w3.cell? ⟨w.heap.size,2,none⟩=some (.int .i64 ib):=SS.bx.cell 2;have k3:w3.cell? ⟨w.heap.size,3,none⟩=some (.int .i64 sb):=SS.bx.cell 3;clear x1 s2 hw3 hr3 S0;by_cases q1:ib<1
 ·have d1:decide (ib<1)=true:=decide_eq_true q1;go_wp2_with (first
   | (refine wL 130 rfl rfl SS.bs underlying130 ?_)
   | (refine wS 130 22 rfl (w.heap.size+1) _ (F8 wi ro ib sb) rfl rfl SS.br rfl rfl (mq wi ro ib sb) ?_;intro w9 cC dN))
  refine bodyPost_ret (aS results83 rfl (aj cC 130 underlying130 rfl (by kernel_rfl)) rfl) rfl ?_;exact⟨⟨false,rfl,by simp;omega⟩,SS.low.trans (dN.ag SS.low.size (by simp))⟩
 have d1:decide (ib<1)=false:=decide_eq_false q1;by_cases q2:1000<ib
 ·have d2:decide (1000<ib)=true:=decide_eq_true q2;go_wp2_with (first
   | (refine wL 130 rfl rfl SS.bs underlying130 ?_)
   | (refine wS 130 22 rfl (w.heap.size+1) _ (F8 wi ro ib sb) rfl rfl SS.br rfl rfl (mq wi ro ib sb) ?_;intro w9 cC dN))
  refine bodyPost_ret (aS results83 rfl (aj cC 130 underlying130 rfl (by kernel_rfl)) rfl) rfl ?_;exact⟨⟨false,rfl,by simp;omega⟩,SS.low.trans (dN.ag SS.low.size (by simp))⟩
 have d2:decide (1000<ib)=false:=decide_eq_false q2;by_cases q3:sb<1
 ·have d3:decide (sb<1)=true:=decide_eq_true q3;go_wp2_with (first
   | (refine wL 130 rfl rfl SS.bs underlying130 ?_)
   | (refine wS 130 22 rfl (w.heap.size+1) _ (F8 wi ro ib sb) rfl rfl SS.br rfl rfl (mq wi ro ib sb) ?_;intro w9 cC dN))
  refine bodyPost_ret (aS results83 rfl (aj cC 130 underlying130 rfl (by kernel_rfl)) rfl) rfl ?_;exact⟨⟨false,rfl,by simp;omega⟩,SS.low.trans (dN.ag SS.low.size (by simp))⟩
 have d3:decide (sb<1)=false:=decide_eq_false q3;by_cases q4:100<sb
 ·have d4:decide (100<sb)=true:=decide_eq_true q4;go_wp2_with (first
   | (refine wL 130 rfl rfl SS.bs underlying130 ?_)
   | (refine wS 130 22 rfl (w.heap.size+1) _ (F8 wi ro ib sb) rfl rfl SS.br rfl rfl (mq wi ro ib sb) ?_;intro w9 cC dN))
  refine bodyPost_ret (aS results83 rfl (aj cC 130 underlying130 rfl (by kernel_rfl)) rfl) rfl ?_;exact⟨⟨false,rfl,by simp;omega⟩,SS.low.trans (dN.ag SS.low.size (by simp))⟩
 have d4:decide (100<sb)=false:=decide_eq_false q4;have SSh:=af SS;clear SS;go_wp2_with fail;clear k0 k1 k2 k3 d1 d2 d3 d4;go_loopw [7,8,9] (fun f o i wr=>o=.slice none 0 0/\((i=.int .i64 0/\f=.slice none 0 0/\wr=w3)\/(i=.int .i64 1/\∃a c,f=.slice a 1 c/\Hid (S3 w (Ci wi ro ib sb) (F8 wi ro ib sb) wr)/\Hid (wr.ownsRow (w.heap.size+3) 136 9 (.slice a 1 c) 1 jd.toList)))) (fun _ _ i _=>1-(intOf i).toNat)
 case atStart=>exact⟨rfl,.inl ⟨rfl,rfl,rfl⟩⟩
 case round=>
  obtain⟨rfl,⟨rfl,rfl,rfl⟩ | ⟨rfl,a7,c7,rfl,SS,how⟩⟩:=hrel
  ·have g3:=HG _ SSh.low;have g4:wr.cell? ⟨g,0,none⟩=some (.int .i64 1):=g3.cell 0;go_wp2_with (first
    | (refine wL 136 rfl rfl g3 underlying136 ?_)
    | (refine wpList_plain rfl fun _ hK=>dF _ rfl yt (by decide) (by decide) (.agg jd) rfl rfl (hK _ _ ?_))
    | (at_builtin;refine jM rfl _ _ rfl yt (by decide) (w.heap.size+3) (.slice none 0 0) 0 [] rfl (World.ownsRow_nil _ _ _ _) wr.heap.size jd.toList 136 rfl (ar.new _ _ _) rfl A1 (by decide) (by decide) (by have:=SSh.size;simp;omega) ?_;intro v4 w4 dI hg4 Qo;obtain⟨a4,c4,rfl⟩:=aA dI))
   refine⟨⟨rfl,.inr ⟨by go_num,a4,c4,rfl,af ?_,af dI⟩⟩,by simp[intOf]⟩;exact(SSh.step (ai.alloc ah (.cells jd 136))).grow hg4 (fun g e=>(by cases e))
  obtain⟨wx,hwx⟩:∃W,W=wr:=⟨_,rfl⟩;subst hwx;have xw:aW (fun r:aP=>r.vals.toList) 9 wx a7 1 c7 [bE [120] 0 1]:=cX (f:=fun r:aP=>r.vals.toList) (size:=9) (xs:=[bE [120] 0 1]) (fun _=>rfl) (show wx.ownsRow (w.heap.size+3) 136 9 (.slice a7 1 c7) 1 ([bE [120] 0 1].flatMap fun r:aP=>r.vals.toList)from how.out) rfl;obtain⟨g7,o7,ha,SQ,hrg⟩:=xw.eM 0 _ rfl;subst ha;have R7:=gu hrg SQ ai.drew;replace R7:wx.drew.rangeAt g7 o7 jd.toList:=R7;clear xw hrg how;go_upto_region 18 with fail;try simp only[PT]
  go_cut [10,11]from 78 (fun p s wy=>∃(ob:Nat)(b:Bool),p=.pointer (some ⟨ob,0,none⟩)/\s=.bool b/\Hid (Of1 w wi ro ib sb ob b wy))
  case first=>
   have SD:=SS.out.step ai.drew;refine aH [(1000,fun w'=>ar w' w.heap.size (Ci wi ro ib sb) 25),(8,fun w'=>w'.rangeAt g7 o7 jd.toList)] (by kernel_rfl) ⟨SD.bx,R7,trivial⟩ fun KQ aL=>?_;try simp only[PT]
   obtain⟨WD,di⟩:=ae wx.drew;rw[di]at SD R7 ⊢;have aca:g7<WD.heap.size:=by rw[<-di];simpa using SQ
   clear di;refine tQ [0] ?_;refine aG 1 rfl (by kernel_rfl) (by kernel_rfl) rfl rfl 0 rfl (by kernel_rfl) (.int .i64 wi) (fun w' hf=>by(have k0:w'.cell? ⟨w.heap.size,0,none⟩=some (.int .i64 wi):=hf.cell 0;go_simp<;>with_reducible rfl)) ?_;simp only[PT];refine tQ [2] ?_;refine aG 3 rfl (by kernel_rfl) (by kernel_rfl) rfl rfl 0 rfl (by kernel_rfl) (.int .i64 ro) (fun w' hf=>by(have k0:w'.cell? ⟨w.heap.size,1,none⟩=some (.int .i64 ro):=hf.cell 1;go_simp<;>with_reducible rfl)) ?_;simp only[PT];refine tQ [4,5] ?_;refine lR 6 1 rfl rfl rfl rfl (v:=.agg (jd.toList:List Value).toArray) (fun w' hf=>run_loadAt_mid w' _ _ 136 (jd.toList:List Value) _ hf underlying136 rfl (by kernel_rfl)) ?_;simp only[PT];refine tQ [7] ?_;refine dM [8,12] (fun j hj=>?_);have hj:j=8\/j=12:=by simpa using hj
   rcases hj with rfl | rfl
   ·refine⟨⟨_,rfl,by kernel_rfl,fun K hK=>?_⟩⟩;go_simp;refine(FY wi ro _).mono ?_;rintro e w5 ⟨⟨b,rfl,hb⟩,eF⟩;obtain⟨oc,Gb⟩:=ae (if b then D7 wi ro else tR);have QH:oc.size=8:=by rw[<-Gb];cases b<;>rfl
    have tA:∀v∈oc.toList,v.oneCell'=true:=by rw[<-Gb];cases b;exact n7;exact qL wi ro
    rw[Gb];have S5:=SD.step eF;refine hK _ _ ⟨⟨fun _=>S5.bx,(fun h=>by cases h),trivial⟩,?_⟩;clear hK K;try simp only[PT]
    refine tQ [9,10,11] ?_;refine sQ 12 fun K hK=>?_;simp only[GO];go_simp;have S6:=S5.step (ai.alloc ah (.cells tR 126));refine hK _ _ ⟨⟨fun _=>S6.bx,(fun h=>by cases h),trivial⟩,?_⟩;clear hK K;try simp only[PT]
    refine sQ 13 fun K hK=>?_;simp only[GO];refine wW 126 8 rfl w5.heap.size tR oc rfl rfl (ar.new _ _ _) QH rfl tA fun w7 gZ gD=>?_;have S7:=S6.wrote gD (by have:=S5.size;simp;omega);refine hK _ _ ⟨⟨fun _=>S7.bx,(fun h=>by cases h),trivial⟩,?_⟩;clear hK K;try simp only[PT]
    refine tQ [14] ?_;refine dQ (aL.out _ _ ?_);clear aL KQ;have H9:=af (show Of1 w wi ro ib sb _ b w7 from⟨S7,by rw[Gb];exact gZ,by have:=S5.size;omega,hb⟩);go_wp2;go_meet
    case rel=>exact⟨_,_,rfl,rfl,H9⟩
   refine⟨⟨_,rfl,by kernel_rfl,fun K hK=>?_⟩⟩;go_simp;have S6:=SD.step (ai.alloc ah (.cells tR 126));have Z6:=ar.new WD tR 126;have R8:(WD.alloc (.cells tR 126)).rangeAt g7 o7 jd.toList:=gu R7 aca (ai.alloc ah _);refine hK _ _ ⟨⟨fun _=>S6.bx,fun _=>R8,trivial⟩,?_⟩;clear hK K;try simp only[PT]
   refine sQ 8 fun K hK=>?_;simp only[GO];go_simp;refine(FY wi ro _).mono ?_;rintro e w5 ⟨⟨b,rfl,hb⟩,eF⟩;obtain⟨oc,Gb⟩:=ae (if b then D7 wi ro else tR);have QH:oc.size=8:=by rw[<-Gb];cases b<;>rfl
   have tA:∀v∈oc.toList,v.oneCell'=true:=by rw[<-Gb];cases b;exact n7;exact qL wi ro
   rw[Gb];have S7:=S6.step eF;have Z7:=Z6.ag eF;refine hK _ _ ⟨⟨fun _=>S7.bx,(fun h=>by cases h),trivial⟩,?_⟩;clear hK K;try simp only[PT]
   refine tQ [9,10,11] ?_;refine sQ 13 fun K hK=>?_;simp only[GO];refine wW 126 8 rfl WD.heap.size tR oc rfl rfl Z7 QH rfl tA fun w7 gZ gD=>?_;have S8:=S7.wrote gD (by have:=SD.size;simp;omega);refine hK _ _ ⟨⟨fun _=>S8.bx,(fun h=>by cases h),trivial⟩,?_⟩;clear hK K;try simp only[PT]
   refine tQ [14] ?_;refine dQ (aL.out _ _ ?_);clear aL KQ;have H9:=af (show Of1 w wi ro ib sb _ b w7 from⟨S8,by rw[Gb];exact gZ,by have:=SD.size;omega,hb⟩);go_wp2;go_meet
   case rel=>exact⟨_,_,rfl,rfl,H9⟩
  case rest=>
   obtain⟨ob,b,rfl,rfl,hO⟩:=hcut;obtain⟨wy,XE⟩:∃W,W=wc:=⟨_,rfl⟩;subst XE;have SS:=hO.out.s;cases b with
   | false=>
    have hb:=hO.out.iff;simp only[Bool.false_eq_true,false_iff]at hb;go_wp2_with (first
     | (refine wL 130 rfl rfl SS.bs underlying130 ?_)
     | (refine wS 130 22 rfl (w.heap.size+1) _ (F8 wi ro ib sb) rfl rfl SS.br rfl rfl (mq wi ro ib sb) ?_;intro w9 cC dN))
    refine bodyPost_ret (aS results83 rfl (aj cC 130 underlying130 rfl (by kernel_rfl)) rfl) rfl ?_;exact⟨⟨false,rfl,by simp;omega⟩,SS.low.trans (dN.ag SS.low.size (by simp))⟩
   | true=>
    have hb:=af (hO.out.iff.1 rfl);have ho:ar wy ob (D7 wi ro) 126:=hO.out.box;try simp only[Bool.not_true]
    go_upto_region 22 with(first
     | (refine wL 126 rfl rfl ho underlying126 ?_)
     | (refine wpList_store_mid rfl 126 130 _ _ rfl 8 (fun w=>by kernel_rfl) (w.heap.size+1+1) 4 _ (D7 wi ro) rfl rfl SS.bs rfl (by exact(by decide:4+8<=22)) (qL wi ro) ?_;intro w7 gZ gD))
    have S7:Hid (S3 w (Ci wi ro ib sb) (QV wi ro ib sb) w7):=af (SS.put gZ gD);clear SS gZ gD ho hO;go_wp2_with fail;go_loopw [12,13,14,15,16,17,18,19] (fun i s13 s14 s15 s16 s17 s18 s19 wr=>∃j:Nat,j<=1/\i=.int .i64 j/\Hid (S3 w (Ci wi ro ib sb) (QV wi ro ib sb) wr)) (fun i _ _ _ _ _ _ _ _=>1-(intOf i).toNat)
    case atStart=>exact⟨0,by decide,by go_num,S7⟩
    case round=>
     obtain⟨j,hj,rfl,S8⟩:=hrel;obtain⟨wz,hwz⟩:∃W,W=wr:=⟨_,rfl⟩;subst hwz;by_cases hj0:j=0
     ·subst hj0;have g3:=HG _ S8.out.low;have BN:=ar.new wz (aP.vals ⟨0,[],0,0,[],[],0,false,0⟩) 136;go_wp2_with (first
       | (refine wL 136 rfl rfl g3 underlying136 ?_)
       | (refine wS 136 9 rfl wz.heap.size _ jd rfl rfl BN rfl rfl A1 ?_;intro w8 rT wV;have k8:w8.cell? ⟨wz.heap.size,0,none⟩=some (.int .i64 1):=rT.cell 0))
      refine⟨⟨1,by decide,by go_num,af ?_⟩,by simp[intOf]⟩;exact(S8.out.step (ai.alloc ah (.cells (aP.vals ⟨0,[],0,0,[],[],0,false,0⟩) 136))).wrote wV (by have:=S8.out.size;simp;omega)
     obtain rfl:j=1:=by omega
     have SD:=S8.out.step ai.drew;go_upto_region 39 with fail
     try simp only[PT]
     refine aH [(1000,fun w'=>ar w' (w.heap.size+1+1) (QV wi ro ib sb) 130),(1000,fun w'=>ar w' w.heap.size (Ci wi ro ib sb) 25)] (by kernel_rfl) ⟨SD.bs,SD.bx,trivial⟩ fun KQ aL=>?_;try simp only[PT]
     obtain⟨WD,di⟩:=ae wz.drew;rw[di]at SD ⊢;clear di;have d9:decide (0<=sb)=true:=decide_eq_true (by omega);refine lR 0 0 rfl rfl rfl rfl (fun w' hf=>aM hf 130 underlying130 rfl (by kernel_rfl)) ?_;simp only[PT];refine tQ [1] ?_;refine aG 2 rfl (by kernel_rfl) (by kernel_rfl) rfl rfl 0 rfl (by kernel_rfl) (.slice none 0 0) (fun w' hf=>by(have k0:w'.cell? ⟨w.heap.size+1+1,13,none⟩=some (.slice none 0 0):=hf.cell 13;go_simp<;>with_reducible rfl)) ?_;simp only[PT];refine tQ [3,4] ?_;refine aG 5 rfl (by kernel_rfl) (by kernel_rfl) rfl rfl 1 rfl (by kernel_rfl) (.int .i64 sb) (fun w' hf=>by(have k0:w'.cell? ⟨w.heap.size,3,none⟩=some (.int .i64 sb):=hf.cell 3;go_simp<;>with_reducible rfl)) ?_;simp only[PT];refine tQ [6] ?_;refine sQ 7 fun K hK=>?_;simp only[GO];refine wW 130 22 rfl (w.heap.size+1) _ (QV wi ro ib sb) rfl rfl SD.br rfl rfl (Ga wi ro ib sb) fun w9 cC dN=>?_;refine hK _ _ ⟨⟨fun _=>SD.bs.aw dN (by simp),fun _=>SD.bx.aw dN (by simp),trivial⟩,?_⟩;clear hK K;try simp only[PT]
     refine tQ [8] ?_;refine dQ (aL.out _ _ ?_);clear aL KQ;go_wp2;refine bodyPost_ret (aS results83 rfl (aj cC 130 underlying130 rfl (by kernel_rfl)) rfl) rfl ?_;exact⟨⟨true,rfl,by have:=hb.out;simp;omega⟩,SD.low.trans (dN.ag SD.low.size (by simp))⟩
theorem I1(W:World):(Instr.build 136 #[(0,.int .i64 1),(1,.string ⟨#[120]⟩),(3,.int .i64 1)]).run prog W=.ok (.agg jd) W:=by kernel_rfl
theorem El(c:nS)(w:World):Calls prog 35 #[.agg c.cl.toArray] w (aD (ot c) w):=by
 obtain⟨R,hR⟩:=ae (ot c);have hR:Hid (R↔ot c):=af (by rw[hR]);unfold ot at hR;obtain⟨wi,ro,ib,sb,se,re,sec⟩:=c;dsimp only at hR;rw[show ot ⟨wi,ro,ib,sb,se,re,sec⟩=R from propext (by rw[hR.out];exact Iff.rfl)];obtain⟨bs,mF⟩:=ae ((⟨sec.toArray⟩:ByteArray):ByteArray);obtain⟨bn,QW⟩:=ae sec.length;have hsz:bs.size=bn:=by rw[<-mF,<-QW];simp[ByteArray.size]
 rw[QW]at hR;obtain⟨cc,hcc⟩:=ae ((nS.cl ⟨wi,ro,ib,sb,se,re,sec⟩).toArray);have hB:ar (w.alloc (.cells cc 27)) w.heap.size cc 27:=ar.new _ _ _;have kc:Hid (∀W,ar W w.heap.size cc 27->W.cell? ⟨w.heap.size,4,none⟩=some (.int .i64 se)/\W.cell? ⟨w.heap.size,5,none⟩=some (.int .i64 re)/\W.cell? ⟨w.heap.size,6,none⟩=some (.string bs)):=af fun W hb=>by rw[hb.cell,hb.cell,hb.cell,<-hcc,<-mF];exact⟨rfl,rfl,rfl⟩
 have hm:(w.alloc (.cells cc 27)).rangeAt w.heap.size 0 (Ci wi ro ib sb).toList:=hB.mid [] (Ci wi ro ib sb).toList [.int .i64 se,.int .i64 re,.string bs] (by rw[<-hcc,<-mF];rfl);rw[hcc];have b0:Hid (Below w.heap.size w (w.alloc (.cells cc 27))):=af (ai.alloc ah _);have XF:=af hB;clear hcc mF QW hB;have G:ar ((w.alloc (.cells cc 27)).alloc (.cells jd 136)) (w.heap.size+1) jd 136:=ar.jb _ _ _ _ (by simp);have b1:=af (b0.alloc b0.size (.cells jd 136));have B1:=af (XF.alloc (.cells jd 136));have CO:=af (Pc wi ro ib sb _ _ G);clear G;go_enter func35,ntmps35;go_wp2_with (first
  | (refine sF 25 rfl rfl hm underlying25 ?_)
  | (refine iH 136 rfl #[(0,.int .i64 1),(1,.string ⟨#[120]⟩),(3,.int .i64 1)] rfl (.agg jd) I1 ?_)
  | (refine wpList_plain rfl fun _ hK=>dF _ rfl yt (by decide) (by decide) (.agg jd) rfl rfl (hK _ _ ?_)))
 refine CO.mono ?_;rintro e w5 ⟨⟨b,rfl,hb⟩,eF⟩;obtain⟨oc,Gb⟩:=ae (if b then QV wi ro ib sb else F8 wi ro ib sb);have QH:oc.size=22:=by rw[<-Gb];cases b<;>rfl
 have tA:∀v∈oc.toList,v.oneCell'=true:=by rw[<-Gb];cases b;exact mq wi ro ib sb;exact Ga wi ro ib sb
 rw[Gb];have B5:=af (b1.trans (eF.mono b1.size));have C5:=af (B1.ag eF);have BN:=ar.new w5 zS 130;replace hb:=af hb;replace tA:=af tA;clear hm CO eF b1 B1 XF b0 Gb;unfold zS at BN;go_upto_region 2 with(refine wS 130 22 rfl w5.heap.size _ oc rfl rfl BN QH rfl tA.out ?_;intro w6 kh mL)
 have C6:=(C5.alloc (.cells zS 130)).aw mL (by have:=C5.lt;simp;omega);have B6:=af ((B5.alloc B5.size (.cells zS 130)).trans (mL.ag (by have:=B5.size;simp;omega) (by have:=B5.size;simp;omega)));have k:=kc _ C6;obtain⟨k4,k5,k6⟩:=k;clear B5 C5 C6 BN kh mL tA QH;have B5:=B6;clear B6;try simp only[PT]
 cases b with
 |false=>
  have hb:=hb.out;simp only[Bool.false_eq_true,false_iff]at hb;go_wp2_with fail
  go_ret;exact aD.no (fun h9=>by have:=hR.1 h9;omega) B5.out
 | true=>
  have hb:=hb.1 rfl;replace hR:Hid (R↔(1<=se/\se<=40)/\(0<=re/\re<=1000)/\bn<=200):=af (by rw[hR.out];exact⟨fun h=>h.2.2.2.2,fun h=>⟨hb.1,hb.2.1,hb.2.2.1,hb.2.2.2,h⟩⟩);clear hb;by_cases q1:¬1<=se
  ·have d1:decide (1<=se)=false:=decide_eq_false q1;go_wp2_with fail
   go_ret;exact aD.no (fun h9=>by have:=hR.1 h9;omega) B5.out
  have d1:decide (1<=se)=true:=decide_eq_true (by omega);by_cases q2:¬se<=40
  ·have d2:decide (se<=40)=false:=decide_eq_false q2;go_wp2_with fail
   go_ret;exact aD.no (fun h9=>by have:=hR.1 h9;omega) B5.out
  have d2:decide (se<=40)=true:=decide_eq_true (by omega);by_cases q3:¬0<=re
  ·have d3:decide (0<=re)=false:=decide_eq_false q3;go_wp2_with fail
   go_ret;exact aD.no (fun h9=>by have:=hR.1 h9;omega) B5.out
  have d3:decide (0<=re)=true:=decide_eq_true (by omega);by_cases q4:¬re<=1000
  ·have d4:decide (re<=1000)=false:=decide_eq_false q4;go_wp2_with fail
   go_ret;exact aD.no (fun h9=>by have:=hR.1 h9;omega) B5.out
  have d4:decide (re<=1000)=true:=decide_eq_true (by omega);by_cases q5:¬bn<=200
  ·have d5:decide ((bn:Int)<=200)=false:=decide_eq_false (by omega);go_wp2_with fail
   go_ret;exact aD.no (fun h9=>by have:=hR.1 h9;omega) B5.out
  have d5:decide ((bn:Int)<=200)=true:=decide_eq_true (by omega);go_wp2_with fail
  go_ret;exact aD.yes (hR.2 (by omega)) B5.out
end
end Go.Proofs.YtkghejaimhoboaaGreatDoor
