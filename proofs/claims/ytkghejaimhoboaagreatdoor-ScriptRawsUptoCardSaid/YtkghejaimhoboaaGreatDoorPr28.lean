/- Parts of the proof of ScriptRaws. -/
import Derived.Test.YtkghejaimhoboaaGreatDoorPr21
import Derived.Test.YtkghejaimhoboaaGreatDoorPr22
set_option linter.unusedSimpArgs false
set_option linter.unusedVariables false
set_option maxRecDepth 100000
set_option maxHeartbeats 8000000
namespace Go.Proofs.YtkghejaimhoboaaGreatDoor
open Go.RowKit Go.Shelf Go.Proofs.Tryz
section
attribute [local go_sem] Oper.semAt_some
structure ParA (C:PkCode)(l:List UInt8)(w:World)(e:Ending)(w':World):Prop where
 below:Below w.heap.size w w'
 out:(65536<l.length/\e=.returned (.tuple #[.agg zSc.cells.toArray,.int .i64 3]))\/(l.length<=65536/\(∀s,rScript C false l=some s->¬rightS s)/\e=.returned (.tuple #[.agg zSc.cells.toArray,.int .i64 390]))\/
  (l.length<=65536/\∃s:ScC,rScript C false l=some s.sc/\rightS s.sc/\e=.returned (.tuple #[.agg s.cells.toArray,.int .i64 0])/\s.In w')
theorem sc_Parse(C:PkCode)(a:Option Addr)(n c:Nat)(l:List UInt8)(w:World)(hrow:RowAt w a n c (bs l))(hn:n<=70368744177664)(hT:TzAt w)
  (hN:∀s,rScript C false l=some s->NewOK s.cf) (hK:∀s,rScript C false l=some s->∀x:TnC,x.t∈s.ts->KindDo x) (hD:19<=l.length->∀k,ReadDo C k):
  Calls prog 8 #[.slice a n c] w (ParA C l w):=by
 have hmf:∀(fn:Fn)(first cap:Array Value)(w:World),(Instr.makeFunc fn first cap).run prog w=.ok (.func fn first cap) w:=fun _ _ _ _=>rfl;obtain⟨W0,hW0⟩:=gen_of (w.alloc (.cells #[.slice a n c] 22));have hb0:Below w.heap.size w W0:=by rw[<-hW0];exact bel_refl.alloc nat_le_rfl _
 have hg0:Boxed W0 w.heap.size 22 (.slice a n c):=by rw[<-hW0];exact Boxed.new _ _ _
 obtain⟨W1,hW1⟩:=gen_of (W0.alloc (.cells #[.int .i64 0,.int .i64 0,.int .i64 0,.int .i64 0,.int .i64 0,.int .i64 0,.string ⟨#[]⟩,.int .i64 0,.slice none 0 0] 30));have hb1:Below w.heap.size w W1:=by rw[<-hW1];exact hb0.alloc hb0.size _
 have hx1:Blk W1 W0.heap.size zSc.cells.toArray 30:=by rw[<-hW1];exact Blk.new _ _ _
 have hg1:Boxed W1 w.heap.size 22 (.slice a n c):=by rw[<-hW1];exact hg0.alloc _
 have hw0:=hg0.lt;have hw1:=hx1.lt;obtain⟨b,hbb⟩:=gen_of W0.heap.size;rw[hbb]at hx1 hw1 hw0;have he:=enters_of func18 (by kernel_rfl) rfl;have hk1:PaK w b W1.heap.size (W1.alloc (.cells #[.int .i64 0] 31)):=⟨hb1.alloc hb1.size _,hx1.alloc _,Boxed.new _ _ _⟩;have C1:=hid (sc_guard 18 #[.pointer (some ⟨w.heap.size,0,none⟩),.pointer (some ⟨b,0,none⟩)] (PaR C l w b W1.heap.size) W1 he
  (sc_Parse1 C a n c l w (W1.alloc (.cells #[.int .i64 0] 31)) w.heap.size b W1.heap.size (hrow.below (hb1.alloc hb1.size _)) (hg1.alloc _) hk1 hn (hT.below (hb1.alloc hb1.size _)) (by omega) (by omega) hN hK hD))
 have hbw:=hid (show w.heap.size<=b by omega);replace hw1:=hid hw1;replace hb1:=hid hb1;clear hrow hT hN hK hD hg0 hg1 hb0 hk1 hx1;go_enter func8,ntmps8;go_wp2_with fail
 refine C1.mono ?_;rintro e w2 ⟨o,w1,rfl,hR,hb2,hl⟩;obtain⟨z,hz⟩:=gen_of (o.getD 0);have hsz:(w1.setCell ⟨W1.heap.size,0,none⟩ (.int .i64 (o.getD 0))).heap.size=w1.heap.size:=by simp
 have hse:Wrote [W1.heap.size] w1 (w1.setCell ⟨W1.heap.size,0,none⟩ (.int .i64 (o.getD 0))):=Wrote.setCell w1 _ (by simp) _;have hse2:Wrote [W1.heap.size] w1 w2:=hse.trans (Wrote.of_below (by rw[hsz];exact hb2));have hBel:Below w.heap.size w w2:=hR.below.trans (hse2.below (n₀:=w.heap.size) hR.below.size (by have:=hb1.size;simp;omega));obtain⟨s,hv,hA⟩:∃s:ScC,Blk w2 b s.cells.toArray 30/\∀w3,Below w.heap.size w w3->Wrote [b] w2 w3->ParA C l w (.returned (.tuple #[.agg s.cells.toArray,.int .i64 (o.getD 0)])) w3:=by
  have hkp:∀cs,Blk w1 b cs 30->Blk w2 b cs 30:=fun cs h=>h.keepW hse2 (by have:=hw1.out;simp;omega);rcases hR.out with⟨h1,rfl,h3⟩ | ⟨h1,h2,rfl,h3⟩ | ⟨h1,s,h2,h3,rfl,h4,h5⟩
  ·exact⟨zSc,hkp _ h3,fun w3 hb _=>⟨hb,.inl ⟨h1,rfl⟩⟩⟩
  ·exact⟨zSc,hkp _ h3,fun w3 hb _=>⟨hb,.inr (.inl ⟨h1,h2,rfl⟩)⟩⟩
  refine⟨s,hkp _ h4,fun w3 hb hw=>⟨hb,.inr (.inr ⟨h1,s,h2,h3,rfl,?_⟩)⟩⟩;exact h5 w3 ((hse2.sub (by simp)).trans (hw.sub (by simp)))
 rw[hz]at hA ⊢;obtain⟨sv,hsv⟩:=gen_of s.cells.toArray;have is:(prog.info? 30).map (·.size)=some sv.size:=by rw[<-hsv];exact(by kernel_rfl:(prog.info? 30).map (·.size)=some 9)
 have hsize:sv.size=9:=by rw[<-hsv];rfl
 have hone:Hid (∀u∈sv.toList,u.oneCell'=true):=hid (by rw[<-hsv];simp[ScC.cells,Value.oneCell']);rw[hsv]at hv hA;replace hA:=hid hA;replace hBel:=hid hBel;replace hsize:=hid hsize;clear hb2 hR hl hsz hse hse2 hz hsv;go_wp2_with (first
  | (refine wL 30 rfl rfl hv underlying30 ?_ rfl rfl is)
  | (refine wS 30 9 rfl b sv sv rfl rfl hv hsize.out hsize.out hone.out ?_;intro w3 hv3 hw3))
 refine bodyPost_ret (results_ct1 results8 rfl (run_loadVar_blk hv3 30 underlying30 rfl is) rfl) rfl ?_;exact hA w3 (hBel.trans (hw3.below (n₀:=w.heap.size) hBel.size (by simp;exact hbw.out))) hw3
structure FewP (w:World)(e:Ending)(w':World):Prop where
 out:∃b:Bool,e=.returned (.bool b)/\Below w.heap.size w w'
theorem law28_few(s:ScC)(most:Int)(w:World)(hs:s.In w):Calls prog 12 #[.agg s.cells.toArray,.int .i64 most] w (FewP w):=by
 obtain⟨sv,hsv⟩:=gen_of s.cells.toArray;obtain⟨W0,hW0⟩:=gen_of (w.alloc (.cells sv 30));have hb0:Hid (Below w.heap.size w W0):=hid (by rw[<-hW0];exact bel_refl.alloc nat_le_rfl _);have hB:Hid (Blk W0 w.heap.size s.cells.toArray 30):=hid (by rw[<-hW0,<-hsv];exact Blk.new _ _ _);have HL:=hs.t.len;have HS:=hid hs;obtain⟨n,hn⟩:=gen_of s.ht.n;obtain⟨sa,hsa⟩:=gen_of s.ht.a;obtain⟨sc,hsc⟩:=gen_of s.ht.c;have HN:=hid (show s.ts.length=n by rw[HL,hn]);have HS1:=hid (HS.t);rw[hn,hsa,hsc]at HS1;have hK:Hid (∀W,Below W0.heap.size W0 W->W.cell? ⟨w.heap.size,8,none⟩=some (.slice sa n sc)/\∃bs:ByteArray,W.cell? ⟨w.heap.size,6,none⟩=some (.string bs)):=hid fun W hb=>by have h:=hB.below hb;rw[<-hn,<-hsa,<-hsc];exact⟨h.cell 8,_,h.cell 6⟩
 clear hn hsa hsc HL hs;rw[hsv];replace hsv:=hid hsv;have hM:n<=9223372036854775807:=by have:=HS1.le;have:=HS1.max;unfold maxLen at this;omega
 go_enter func12,ntmps12;go_wp2_with fail
 go_loopw [5,6] (fun z i wr=>∃(k:Nat)(y:Int),i=.int .i64 k/\z=.int .i64 y/\k<=n/\Hid (Below W0.heap.size W0 wr)) (fun _ i _=>n-(intOf i).toNat)
 case atStart=>exact⟨0,0,rfl,rfl,Nat.zero_le _,hid (by rw[<-hW0];exact Below.refl _ _)⟩
 case round=>
  obtain⟨k,y,rfl,rfl,hk1,hI⟩:=hrel;obtain⟨k8,bs,k6⟩:=hK _ hI.out;have hF:=hid (hb0.trans (hI.out.mono hb0.size));rcases Nat.lt_or_ge k n with hlt | hge
  ·obtain⟨x,hx⟩:∃x,s.ts[k]?=some x:=⟨_,List.getElem?_eq_getElem (by rw[HN.out];exact hlt)⟩;obtain⟨g1,o1,ha1,hr1⟩:=HS1.range hx;have hc1:=hr1 _ hF.out;subst ha1;have hxin:=hid (HS.each x (List.mem_of_getElem? hx));have ox:=hid (Tn.one x.t x.h x.hp);obtain⟨xc,hxc⟩:=gen_of x.cells;have sx:xc.toArray.size=30:=by rw[<-hxc];rfl
   have ox:Hid (∀v∈xc.toArray.toList,v.oneCell'=true):=hid (by rw[<-hxc];exact ox.out);rw[hxc]at hc1;replace sx:=hid sx;obtain⟨a1,n1,c1,a2,n2,c2,a3,n3,c3,a4,n4,c4,b1,b2,b3,b4,kc⟩:∃a1 n1 c1 a2 n2 c2 a3 n3 c3 a4 n4 c4 b1 b2 b3 b4,Hid (∀W b,Blk W b xc.toArray 55->W.cell? ⟨b,23,none⟩=some (.slice a1 n1 c1)/\W.cell? ⟨b,24,none⟩=some (.slice a2 n2 c2)/\W.cell? ⟨b,25,none⟩=some (.slice a3 n3 c3)/\W.cell? ⟨b,29,none⟩=some (.slice a4 n4 c4)
     /\W.cell? ⟨b,26,none⟩=some (.string b1)/\W.cell? ⟨b,7,none⟩=some (.string b2)/\W.cell? ⟨b,6,none⟩=some (.string b3)/\W.cell? ⟨b,9,none⟩=some (.string b4)):=
    ⟨_,_,_,_,_,_,_,_,_,_,_,_,_,_,_,_,hid fun W b hb=>by simp only[hb.cell,<-hxc];exact⟨rfl,rfl,rfl,rfl,rfl,rfl,rfl,rfl⟩⟩
   have hi:=hI.out.size;go_upto_region 6 with(first
    | (refine wLm 55 rfl rfl hc1 underlying55 ?_ rfl rfl (by rw[<-hxc];kernel_rfl))
    | (refine wS 55 30 rfl _ _ _ rfl rfl (Blk.new _ _ _) sx.out rfl ox.out ?_;intro w5 hw5 hr5))
   have hb5:=hid ((hI.out.alloc hi _).trans (hr5.below (n₀:=W0.heap.size) (by simp;omega) (by simp;omega)));have hF5:=hid (hb0.trans (hb5.mono hb0.size));obtain⟨u1,u2,u3,u4,u5,u6,u7,u8⟩:=kc.out _ _ hw5;clear hw5 hr5 hc1;go_wp2
   all_goals first
    | (go_ret;exact⟨_,rfl,hF5.out⟩)
    | (go_roundw
       ·exact⟨k+1,_,by go_num,rfl,by omega,hb5⟩
       simp[intOf];omega)
  obtain rfl:k=n:=by omega
  go_wp2
  all_goals (go_ret;exact⟨_,rfl,hF.out⟩)
def kX:TnC:=⟨zTn 5,h3Z,hdZ⟩
def kS(g:Nat):ScC:=⟨⟨1,1,1,1,1,0,[]⟩,2,⟨some ⟨g,0,none⟩,1,1⟩,[kX]⟩
def kL:List UInt8:=[0,1,0,1,0,1,0,1,0,1,0,0,0,2,0,0,5,0,0]
theorem kS_in{w:World}{g:Nat}(h:Blk w g kX.cells.toArray 55):(kS g).In w:=
 ⟨⟨rfl,Nat.le_refl _,by show 1<=maxLen;decide,fun i x hx=>by
   cases i with
   |zero=>
    have hx':kX=x:=by simpa[kS]using hx
    subst hx';refine⟨g,0,rfl,h.lt,fun j v hj=>?_⟩;rw[h.cell];simp only[Nat.zero_mul,Nat.zero_add];rw[<-Array.getElem?_toList];exact hj
   | succ i=>simp[kS]at hx⟩,fun x hx=>by
   have hx':x=kX:=by simpa[kS]using hx
   subst hx';exact⟨⟨LsAt.nil w,LsAt.nil w,LsAt.nil w⟩,LsAt.nil w⟩⟩
theorem kS_cf:cfOK ⟨1,1,1,1,1,0,[]⟩:=by unfold cfOK;decide
theorem new_ok(c:CfV):NewOK c:=fun W hT=>brk_New c W hT
theorem kS_new:NewOK ⟨1,1,1,1,1,0,[]⟩:=new_ok _
theorem kX_kind:KindDo kX:=fun c v hv=>by
 have e:v=emptyV:=by have:kindG c kX.t.kind=some emptyV:=rfl;rw[this]at hv;cases hv;rfl
 subst e;refine⟨_,_,_,_,_,_,_,_,rfl,enters_of func45 (by kernel_rfl) rfl,enters_of func49 (by kernel_rfl) rfl,fun W hi hb=>?_,fun W=>?_⟩
 ·refine(sc_may1 kX.t kX.h kX.hp W).mono fun e w' ⟨he,hb⟩=>⟨true,he.trans rfl,?_,hb⟩;simp[mayT,kX,zTn]
 refine(sc_has5 kX.t kX.h kX.hp W).mono fun e w' ⟨he,hb⟩=>⟨⟨zTn 0,h3Z,hdZ⟩,he.trans rfl,?_,fun W' h=>⟨⟨LsAt.nil W',LsAt.nil W',LsAt.nil W'⟩,LsAt.nil W'⟩,hb⟩;rfl
theorem kX_write(w:World):WriteDo pkC w kX:=fun c v hv=>by
 have e:v=emptyV:=by have:kindG c kX.t.kind=some emptyV:=rfl;rw[this]at hv;cases hv;rfl
 subst e;refine⟨_,_,_,_,_,_,_,_,rfl,enters_of func47 (by kernel_rfl) rfl,fun W F p l hb hW hl hF=>?_⟩;refine(sc_write3 _ _ W).mono fun e w' ⟨he,hb⟩=>⟨F,Stp.below hb,.inl ⟨?_,he,?_⟩⟩
 ·have:partB pkC kX.t=[]:=rfl;rw[this];unfold fits;rw[decide_eq_true_eq];simpa using hl
 have:partB pkC kX.t=[]:=rfl;rw[this,List.append_nil];exact hW.below hb
theorem kS_raw(g:Nat):rawS pkC (kS g).sc=kL:=by kernel_rfl
theorem kS_right(g:Nat):rightS (kS g).sc:=⟨kS_cf,by show(2:Int)<=2/\(2:Int)<=4096;decide,by show 1<=2000;decide,fun t ht=>by
 have:t=kX.t:=by simpa[kS,ScC.sc]using ht
 subst this;exact⟨by simp[mayT,kX,zTn],rfl⟩⟩
theorem kL_18:rScript pkC false (kL.take 18)=none:=by kernel_rfl
theorem k_nil:rScript pkC false []=none:=by kernel_rfl
theorem known28(w:World)(hT:TzAt w):Calls prog 7 #[] w fun e w'=>e=.returned (.bool true)/\Below w.heap.size w w':=by
 obtain⟨w1,hW1⟩:=gen_of ((w.alloc (.cells #[.int .i64 5,.int .i64 0,.int .i64 0,.bool false,.bool false,.int .i64 0,.string ⟨#[]⟩,.string ⟨#[]⟩,.int .i64 0,.string ⟨#[]⟩,.bool false,.int .i64 0,.bool false,.string ⟨#[]⟩,.string ⟨#[]⟩,.int .i64 0,.bool false,.bool false,.bool false,.string ⟨#[]⟩,.string ⟨#[]⟩,.bool false,.int .i64 0,.slice none 0 0,.slice none 0 0,.slice none 0 0,.string ⟨#[]⟩,.int .i64 0,.int .i64 0,.slice none 0 0] 55)).alloc (.cells #[.int .i64 1,.int .i64 1,.int .i64 1,.int .i64 1,.int .i64 1,.int .i64 0,.string ⟨#[]⟩,.int .i64 2,.slice (some ⟨w.heap.size,0,none⟩) 1 1] 30));have hb1:Hid (Below w.heap.size w w1):=hid (by rw[<-hW1];exact(bel_refl.alloc nat_le_rfl _).alloc (by simp) _);have g1:Blk w1 w.heap.size kX.cells.toArray 55:=by rw[<-hW1];exact(Blk.new w kX.cells.toArray 55).alloc _
 have hw1:Blk w1 (w.heap.size+1) (kS w.heap.size).cells.toArray 30:=by rw[<-hW1];have h:=Blk.new (w.alloc (.cells kX.cells.toArray 55)) (kS w.heap.size).cells.toArray 30;rw[World.size_alloc]at h;exact h
 obtain⟨sv,hsv⟩:=gen_of ((kS w.heap.size).cells.toArray);rw[hsv]at hw1;have hss:Hid (sv.size=9):=hid (by rw[<-hsv];rfl);replace hsv:=hid hsv;replace hT:=hid hT;have CR:=hid (sc_Raw pkC (kS w.heap.size) w1 (kS_in g1) (hT.below hb1.out) kS_new (fun x hx=>by
  have hx':x=kX:=by simpa[kS]using hx
  subst hx';exact kX_kind) (fun _ x hx=>by
  have hx':x=kX:=by simpa[kS]using hx
  subst hx';exact kX_write w1))
 rw[hsv.out]at CR;have is:(prog.info? 30).map (·.size)=some sv.size:=by rw[hss];exact(by kernel_rfl:(prog.info? 30).map (·.size)=some 9)
 clear g1;go_enter func7,ntmps7;go_wp2_with (refine wL 30 rfl rfl hw1 underlying30 ?_ rfl rfl is)
 refine CR.mono ?_;rintro e w2 ⟨hb2,ho⟩;have HB2:=hid (hb1.trans (hb2.mono hb1.size));obtain⟨v,rfl,hv⟩:∃v,e=.returned (.tuple #[v,.int .i64 0])/\w2.ownsRow w1.heap.size 5 1 v 19 (bs kL):=by
  rcases ho with⟨-, -,v,h1,h2⟩ | ⟨-,h, -⟩ | ⟨h, -⟩
  ·rw[kS_raw]at h2;exact⟨v,h1,h2⟩
  ·rw[kS_raw]at h;exact absurd (by decide) h
  exact absurd (kS_right _) h
 obtain⟨av,cv,rfl,hrow⟩:=RowAt.of_own hv;have hstr:=run_str hrow;have hcv:=hrow.le;have hr18:=hrow.take 18 (by decide);rw[show(bs kL).take 18=bs (kL.take 18)from by unfold bs;rw[List.map_take]]at hr18;have CP:=hid (fun(W:World)(hb:Below w2.heap.size w2 W)=>sc_Parse pkC av 18 cv (kL.take 18) W (hr18.below hb) (by decide) (hT.below (HB2.trans (hb.mono HB2.size))) (fun s hs=>by rw[kL_18]at hs;cases hs) (fun s hs=>by rw[kL_18]at hs;cases hs) (fun h=>absurd h (by decide)));have CP0:=hid (fun(W:World)(hb:Below w2.heap.size w2 W)=>sc_Parse pkC none 0 0 [] W (RowAt.empty W) (by decide) (hT.below (HB2.trans (hb.mono HB2.size))) (fun s hs=>by rw[k_nil]at hs;cases hs) (fun s hs=>by rw[k_nil]at hs;cases hs) (fun h=>absurd h (by decide)));have hP:Hid (∀W e W',ParA pkC (kL.take 18) W e W'->e=.returned (.tuple #[.agg zSc.cells.toArray,.int .i64 390])/\Below W.heap.size W W'):=hid fun W e W' ⟨hb,ho⟩=>by
  rcases ho with⟨h, -⟩ | ⟨-, -,h⟩ | ⟨-,s,h, -⟩
  ·exact absurd h (by decide)
  ·exact⟨h,hb⟩
  rw[kL_18]at h;cases h
 have hP0:Hid (∀W e W',ParA pkC [] W e W'->e=.returned (.tuple #[.agg zSc.cells.toArray,.int .i64 390])/\Below W.heap.size W W'):=hid fun W e W' ⟨hb,ho⟩=>by
  rcases ho with⟨h, -⟩ | ⟨-, -,h⟩ | ⟨-,s,h, -⟩
  ·exact absurd h (by decide)
  ·exact⟨h,hb⟩
  rw[k_nil]at h;cases h
 obtain⟨zc,hzc⟩:=gen_of zSc.cells.toArray;rw[hzc]at hP hP0;have hzs:Hid (zc.size=9):=hid (by rw[<-hzc];rfl);have hzo:Hid (∀u∈zc.toList,u.oneCell'=true):=hid (by rw[<-hzc];simp[zSc,ScC.cells,Value.oneCell']);replace hzc:=hid hzc;have hk:kL.toArray=#[0,1,0,1,0,1,0,1,0,1,0,0,0,2,0,0,5,0,0]:=rfl;rw[hk]at hstr;clear hb2 ho hv hrow hr18 hk;go_wp2_with fail;refine(CP w2 bel_refl).mono ?_;rintro e w3 hp3;obtain⟨rfl,hb3⟩:=hP _ _ _ hp3;have HB3:=hid hb3;have hs3:=hid hb3.size;clear hp3 hb3;go_upto_region 6 with(refine wS 30 9 rfl _ _ zc rfl rfl (Blk.new _ _ _) hzs.out rfl hzo.out ?_;intro w4 hw4 hr4);have hb4:=hid ((HB3.alloc hs3.out _).trans (hr4.below (n₀:=w2.heap.size) (by have:=hs3.out;simp;omega) (by have:=hs3.out;simp;omega)));clear hw4 hr4;go_wp2_with fail;refine(CP0 w4 hb4.out).mono ?_;rintro e w5 hp5;obtain⟨rfl,hb5⟩:=hP0 _ _ _ hp5;have HB5:=hid (hb4.trans (hb5.mono hb4.size));clear hp5 hb5;go_wp2_with (refine wS 30 9 rfl _ _ zc rfl rfl (Blk.new _ _ _) hzs.out rfl hzo.out ?_;intro w6 hw6 hr6);have hb6:=(HB5.alloc HB5.size _).trans (hr6.below (n₀:=w2.heap.size) (by have:=HB5.size;simp;omega) (by have:=HB5.size;simp;omega));go_ret;exact⟨rfl,HB2.trans (hb6.mono HB2.size)⟩
structure YesP (w:World)(e:Ending)(w':World):Prop where
 out:e=.returned (.bool true)/\Below w.heap.size w w'
end
end Go.Proofs.YtkghejaimhoboaaGreatDoor
