/- Parts of the proof of ScriptRaws. -/
import Derived.Test.YtkghejaimhoboaaGreatDoorPr20
set_option linter.unusedSimpArgs false
set_option linter.unusedVariables false
set_option maxRecDepth 100000
set_option maxHeartbeats 8000000
namespace Go.Proofs.YtkghejaimhoboaaGreatDoor
open Go.RowKit Go.Shelf Go.Proofs.Tryz
section
attribute [local go_sem] Oper.semAt_some
theorem cfg_eql(a0 b0:Int)(a1 b1:Int)(a2 b2:Int)(a3 b3:Int)(a4 b4:Int)(a5 b5:Int)(a6 b6:List UInt8)(W:World):(binOp .eql 27 (.agg #[.int .i64 a0,.int .i64 a1,.int .i64 a2,.int .i64 a3,.int .i64 a4,.int .i64 a5,.string ⟨a6.toArray⟩]) (.agg #[.int .i64 b0,.int .i64 b1,.int .i64 b2,.int .i64 b3,.int .i64 b4,.int .i64 b5,.string ⟨b6.toArray⟩])).run prog W=.ok (.bool (decide (a0=b0)&&decide (a1=b1)&&decide (a2=b2)&&decide (a3=b3)&&decide (a4=b4)&&decide (a5=b5)&&decide (a6=b6))) W:=by
 go_simp;by_cases h0:a0=b0
 ·subst h0;by_cases h1:a1=b1
  ·subst h1;by_cases h2:a2=b2
   ·subst h2;by_cases h3:a3=b3
    ·subst h3;by_cases h4:a4=b4
     ·subst h4;by_cases h5:a5=b5
      ·subst h5;by_cases h6:a6=b6
       ·subst h6;simp
       simp[h6]
      simp[h5]
     simp[h4]
    simp[h3]
   simp[h2]
  simp[h1]
 simp[h0]
theorem cfg_neq(a0 b0:Int)(a1 b1:Int)(a2 b2:Int)(a3 b3:Int)(a4 b4:Int)(a5 b5:Int)(a6 b6:List UInt8)(W:World):(binOp .neq 27 (.agg #[.int .i64 a0,.int .i64 a1,.int .i64 a2,.int .i64 a3,.int .i64 a4,.int .i64 a5,.string ⟨a6.toArray⟩]) (.agg #[.int .i64 b0,.int .i64 b1,.int .i64 b2,.int .i64 b3,.int .i64 b4,.int .i64 b5,.string ⟨b6.toArray⟩])).run prog W=.ok (.bool (!(decide (a0=b0)&&decide (a1=b1)&&decide (a2=b2)&&decide (a3=b3)&&decide (a4=b4)&&decide (a5=b5)&&decide (a6=b6)))) W:=by
 go_simp;by_cases h0:a0=b0
 ·subst h0;by_cases h1:a1=b1
  ·subst h1;by_cases h2:a2=b2
   ·subst h2;by_cases h3:a3=b3
    ·subst h3;by_cases h4:a4=b4
     ·subst h4;by_cases h5:a5=b5
      ·subst h5;by_cases h6:a6=b6
       ·subst h6;simp
       simp[h6]
      simp[h5]
     simp[h4]
    simp[h3]
   simp[h2]
  simp[h1]
 simp[h0]
def cfB(c d:CfV):Bool:=decide (c.window=d.window)&&decide (c.room=d.room)&&decide (c.inbox=d.inbox)&&decide (c.subs=d.subs)&&decide (c.sessions=d.sessions)&&decide (c.retained=d.retained)&&decide (c.secret=d.secret)
theorem cf_eql(c d:CfV)(W:World):(binOp .eql 27 (.agg c.cl.toArray) (.agg d.cl.toArray)).run prog W=.ok (.bool (cfB c d)) W:=cfg_eql _ _ _ _ _ _ _ _ _ _ _ _ _ _ W
theorem cf_neq(c d:CfV)(W:World):(binOp .neq 27 (.agg c.cl.toArray) (.agg d.cl.toArray)).run prog W=.ok (.bool (!cfB c d)) W:=cfg_neq _ _ _ _ _ _ _ _ _ _ _ _ _ _ W
theorem cf_gu(c d:CfV)(s1 s2:Operand)(W:World):(eqGuard .eql 27 s1 s2 (.agg c.cl.toArray) (.agg d.cl.toArray)).run prog W=.ok () W:=by unfold CfV.cl;go_simp
theorem cf_gun(c d:CfV)(s1 s2:Operand)(W:World):(eqGuard .neq 27 s1 s2 (.agg c.cl.toArray) (.agg d.cl.toArray)).run prog W=.ok () W:=by unfold CfV.cl;go_simp
theorem cfB_iff(c d:CfV):cfB c d=true↔c=d:=by obtain⟨a1,a2,a3,a4,a5,a6,a7⟩:=c;obtain⟨b1,b2,b3,b4,b5,b6,b7⟩:=d;unfold cfB;simp only[Bool.and_eq_true,decide_eq_true_eq,CfV.mk.injEq,and_assoc]
structure SEq (s t:ScC):Prop where
 cf:cfB s.cf t.cf=true
 pages:s.pages=t.pages
 ts:s.ts.map TnC.t=t.ts.map TnC.t
theorem SEq.iff(s t:ScC):s.sc=t.sc↔SEq s t:=by
 unfold ScC.sc;rw[Sc.mk.injEq];constructor
 ·rintro⟨a,b,c⟩;exact⟨(cfB_iff _ _).2 a,b,c⟩
 rintro⟨a,b,c⟩;exact⟨(cfB_iff _ _).1 a,b,c⟩
theorem sc_Same(s t:ScC)(w:World)(hs:s.In w)(ht:t.In w):
  Calls prog 13 #[.agg s.cells.toArray,.agg t.cells.toArray] w (Tells (s.sc=t.sc) w):=by
 have hiff:=SEq.iff s t;obtain⟨P,hP⟩:=gen_of ((s.sc=t.sc):Prop);rw[hP]at hiff ⊢;clear hP;replace hiff:=hid hiff;have HS:=hid hs;have HT:=hid ht;obtain⟨sv,hsv⟩:=gen_of s.cells.toArray;obtain⟨tv,htv⟩:=gen_of t.cells.toArray;obtain⟨W0,hW0⟩:=gen_of ((w.alloc (.cells sv 30)).alloc (.cells tv 30));have hb0:Below w.heap.size w W0:=by rw[<-hW0];exact(bel_refl.alloc nat_le_rfl _).alloc (by simp) _
 have b1:Blk W0 w.heap.size s.cells.toArray 30:=by rw[<-hW0,<-hsv,<-htv];exact(Blk.new _ _ _).alloc _
 have b2:Blk W0 (w.heap.size+1) t.cells.toArray 30:=by rw[<-hW0,<-hsv,<-htv];have:=Blk.new (w.alloc (.cells s.cells.toArray 30)) t.cells.toArray 30;simpa using this
 have m1:=b1.mid [] s.cf.cl [.int .i64 s.pages,.slice s.ht.a s.ht.n s.ht.c] rfl;have m2:=b2.mid [] t.cf.cl [.int .i64 t.pages,.slice t.ht.a t.ht.n t.ht.c] rfl;have k7:W0.cell? ⟨w.heap.size,7,none⟩=some (.int .i64 s.pages):=b1.cell 7;have j7:W0.cell? ⟨w.heap.size+1,7,none⟩=some (.int .i64 t.pages):=b2.cell 7;have k8:W0.cell? ⟨w.heap.size,8,none⟩=some (.slice s.ht.a s.ht.n s.ht.c):=b1.cell 8;have j8:W0.cell? ⟨w.heap.size+1,8,none⟩=some (.slice t.ht.a t.ht.n t.ht.c):=b2.cell 8;have hq:=cf_eql s.cf t.cf;have hg:=cf_gu s.cf t.cf;obtain⟨v1,hv1⟩:=gen_of (Value.agg s.cf.cl.toArray);obtain⟨v2,hv2⟩:=gen_of (Value.agg t.cf.cl.toArray);obtain⟨c1,hc1⟩:=gen_of (cfB s.cf t.cf);rw[hv1,hv2,hc1]at hq;rw[hv1,hv2]at hg;have l1:∀W,W0=W->(Instr.loadAt 27 (.pointer (some ⟨w.heap.size,0,none⟩))).run prog W=.ok v1 W:=by rintro W rfl;rw[<-hv1];exact run_loadAt_mid _ _ _ 27 s.cf.cl _ m1 underlying27 rfl (by kernel_rfl)
 have l2:∀W,W0=W->(Instr.loadAt 27 (.pointer (some ⟨w.heap.size+1,0,none⟩))).run prog W=.ok v2 W:=by rintro W rfl;rw[<-hv2];exact run_loadAt_mid _ _ _ 27 t.cf.cl _ m2 underlying27 rfl (by kernel_rfl)
 have l1:=hid l1;have l2:=hid l2;have hb0:=hid hb0;replace hc1:=hid hc1;have V1:=hid hv1;have V2:=hid hv2;clear hs ht b1 b2;rw[hsv,htv];replace hsv:=hid hsv;replace htv:=hid htv;clear l1 l2;cases c1 with
 | false=>
  have hno:Hid (¬P):=hid fun e=>by have h7:=(hiff.1 e).cf;rw[hc1.out]at h7;cases h7
  go_enter func13,ntmps13;go_wp2_with (first
   | (refine wLm 27 rfl rfl m1 underlying27 ?_)
   | (refine wLm 27 rfl rfl m2 underlying27 ?_))
  go_ret;exact Tells.no hno.out hb0.out
 | true=>
  by_cases hp:s.pages=t.pages
  ·go_enter func13,ntmps13;go_wp2_with (first
    | (refine wLm 27 rfl rfl m1 underlying27 ?_)
    | (refine wLm 27 rfl rfl m2 underlying27 ?_))
   refine(sc_EqualFunc (HS.t.below hb0.out) (HT.t.below hb0.out) (fun x hx=>(HS.each x hx).below hb0.out) (fun x hx=>(HT.each x hx).below hb0.out)).mono ?_;rintro e w1 ⟨b,rfl,hb,hb1⟩;have HB1:=hid (hb0.trans (hb1.mono hb0.size));replace hb:=hid hb;have hp:=hid hp;clear hb1;go_wp2_with fail;go_ret;refine⟨b,rfl,?_,HB1.out⟩;rw[hb.out,hiff.out];exact⟨fun h=>⟨hc1.out,hp.out,h⟩,fun h=>h.ts⟩
  have dn:(s.pages==t.pages)=false:=by simpa using hp
  have hno:Hid (¬P):=hid fun e=>hp (hiff.1 e).pages;replace hp:=hid hp;go_enter func13,ntmps13;go_wp2_with (first
   | (refine wLm 27 rfl rfl m1 underlying27 ?_)
   | (refine wLm 27 rfl rfl m2 underlying27 ?_))
  go_ret;exact Tells.no hno.out hb0.out
structure SB (b:Nat)(s t:ScC)(w:World):Prop where
 one:Blk w b s.cells.toArray 30
 two:Blk w (b+1) t.cells.toArray 30
theorem SB.below{b:Nat}{s t:ScC}{w w':World}(h:SB b s t w)(hb:Below w.heap.size w w'):SB b s t w':=⟨h.one.below hb,h.two.below hb⟩
theorem r28_Same(s t:ScC)(w:World)(hs:s.In w)(ht:t.In w):
  Calls prog 10 #[.agg s.cells.toArray,.agg t.cells.toArray] w (Tells (s.sc=t.sc) w):=by
 have hiff:=SEq.iff s t;obtain⟨P,hP⟩:=gen_of ((s.sc=t.sc):Prop);rw[hP]at hiff ⊢;clear hP;replace hiff:=hid hiff;have HS:=hid hs;have HT:=hid ht;obtain⟨sv,hsv⟩:=gen_of s.cells.toArray;obtain⟨tv,htv⟩:=gen_of t.cells.toArray;obtain⟨W0,hW0⟩:=gen_of ((w.alloc (.cells sv 30)).alloc (.cells tv 30));have hb0:Below w.heap.size w W0:=by rw[<-hW0];exact(bel_refl.alloc nat_le_rfl _).alloc (by simp) _
 have b1:Blk W0 w.heap.size s.cells.toArray 30:=by rw[<-hW0,<-hsv,<-htv];exact(Blk.new _ _ _).alloc _
 have b2:Blk W0 (w.heap.size+1) t.cells.toArray 30:=by rw[<-hW0,<-hsv,<-htv];have:=Blk.new (w.alloc (.cells s.cells.toArray 30)) t.cells.toArray 30;simpa using this
 have m1:=b1.mid [] s.cf.cl [.int .i64 s.pages,.slice s.ht.a s.ht.n s.ht.c] rfl;have m2:=b2.mid [] t.cf.cl [.int .i64 t.pages,.slice t.ht.a t.ht.n t.ht.c] rfl;have k7:W0.cell? ⟨w.heap.size,7,none⟩=some (.int .i64 s.pages):=b1.cell 7;have j7:W0.cell? ⟨w.heap.size+1,7,none⟩=some (.int .i64 t.pages):=b2.cell 7;have k8:W0.cell? ⟨w.heap.size,8,none⟩=some (.slice s.ht.a s.ht.n s.ht.c):=b1.cell 8;have j8:W0.cell? ⟨w.heap.size+1,8,none⟩=some (.slice t.ht.a t.ht.n t.ht.c):=b2.cell 8;have hq:=cf_neq s.cf t.cf;have hg:=cf_gun s.cf t.cf;obtain⟨v1,hv1⟩:=gen_of (Value.agg s.cf.cl.toArray);obtain⟨v2,hv2⟩:=gen_of (Value.agg t.cf.cl.toArray);obtain⟨c1,hc1⟩:=gen_of (cfB s.cf t.cf);rw[hv1,hv2,hc1]at hq;rw[hv1,hv2]at hg;have hb0:=hid hb0;replace hc1:=hid hc1;have V1:=hid hv1;have V2:=hid hv2;have hSB:SB w.heap.size s t W0:=⟨b1,b2⟩;have hSB:=hid hSB;have hm:s.ht.n<=9223372036854775807:=by have:=hs.t.le;have:=hs.t.max;unfold maxLen at this;omega
 clear hs ht b1 b2;rw[hsv,htv];replace hsv:=hid hsv;replace htv:=hid htv;cases c1 with
 | false=>
  have hno:Hid (¬P):=hid fun e=>by have h7:=(hiff.1 e).cf;rw[hc1.out]at h7;cases h7
  go_enter func10,ntmps10;go_wp2_with (first
   | (refine wLm 27 rfl rfl m1 underlying27 ?_)
   | (refine wLm 27 rfl rfl m2 underlying27 ?_))
  go_ret;exact Tells.no hno.out hb0.out
 | true=>
  by_cases hp:s.pages=t.pages
  ·by_cases hl:t.ht.n=s.ht.n
   ·go_enter func10,ntmps10;go_wp2_with (first
     | (refine wLm 27 rfl rfl m1 underlying27 ?_)
     | (refine wLm 27 rfl rfl m2 underlying27 ?_))
    have hp:=hid hp;clear m1 m2 k7 j7;go_loopw [5] (fun i wr=>∃j:Nat,i=.int .i64 j/\j<=s.ht.n/\Hid (Below w.heap.size w wr)/\Hid (SB w.heap.size s t wr)/\Hid (∀(m:Nat) x y,m<j->s.ts[m]?=some x->t.ts[m]?=some y->x.t=y.t)) (fun i _=>s.ht.n-(intOf i).toNat)
    case atStart=>exact⟨0,rfl,Nat.zero_le _,hb0,hSB,hid fun m x y hm=>absurd hm (by omega)⟩
    case round=>
     obtain⟨j,rfl,hj,hbr,hPr,hall⟩:=hrel;have p8:wr.cell? ⟨w.heap.size,8,none⟩=some (.slice s.ht.a s.ht.n s.ht.c):=hPr.out.one.cell 8;rcases Nat.lt_or_ge j s.ht.n with hlt | hge
     ·obtain⟨x,hx⟩:∃x,s.ts[j]?=some x:=⟨_,List.getElem?_eq_getElem (by rw[HS.t.len];omega)⟩;obtain⟨y,hy⟩:∃y,t.ts[j]?=some y:=⟨_,List.getElem?_eq_getElem (by rw[HT.t.len,hl];omega)⟩;obtain⟨g1,o1,ha1,hr1⟩:=HS.t.range hx;obtain⟨g2,o2,ha2,hr2⟩:=HT.t.range hy;have hc1':=hr1 _ hbr.out.drew;have hc2':=hr2 _ hbr.out.drew;have hPd:SB w.heap.size s t wr.drew:=⟨hPr.out.one,hPr.out.two⟩;have hbd:=hid hbr.out.drew;have CS:=hid (r28_SameTurn x y wr.drew ((HS.each x (List.mem_of_getElem? hx)).below hbd.out) ((HT.each y (List.mem_of_getElem? hy)).below hbd.out));replace hx:=hid hx;replace hy:=hid hy;obtain⟨xc,hxc⟩:=gen_of x.cells;obtain⟨yc,hyc⟩:=gen_of y.cells;rw[hxc,hyc]at CS;have hs1:Hid (s.cells.toArray[8]?=some (.slice (some ⟨g1,o1,none⟩) s.ht.n s.ht.c)):=hid (by rw[<-ha1];rfl);have hs2:Hid (t.cells.toArray[8]?=some (.slice (some ⟨g2,o2,none⟩) t.ht.n t.ht.c)):=hid (by rw[<-ha2];rfl);replace hxc:=hid hxc;replace hyc:=hid hyc;replace ha1:=hid ha1;replace ha2:=hid ha2;clear hr1 hr2;go_wp2_with fail;refine regionQ [(1000,fun w'=>SB w.heap.size s t w'),(1000,fun w'=>w'.rangeAt g1 (o1+j*30) x.cells),(1000,fun w'=>w'.rangeAt g2 (o2+j*30) y.cells)] (by kernel_rfl) ⟨hPd,hc1',hc2',trivial⟩ fun KQ hKQ=>?_;refine tQ [0] ?_;refine lR 1 0 rfl rfl rfl rfl (fun w' hf=>by(have k0:=(hf.one.cell 8).trans hs1.out;go_simp<;>with_reducible rfl)) ?_
      simp only[PT];refine tQ [2,3] ?_;refine lR 4 1 rfl rfl rfl rfl (v:=.agg xc.toArray) (fun w' hf=>by rw[<-hxc.out];exact run_loadAt_mid w' _ _ 55 x.cells _ hf underlying55 rfl (by kernel_rfl)) ?_;try simp only[PT]
      refine tQ [5] ?_;refine lR 6 0 rfl rfl rfl rfl (fun w' hf=>by(have k0:=(hf.two.cell 8).trans hs2.out;go_simp<;>with_reducible rfl)) ?_;simp only[PT];refine tQ [7,8] ?_;refine lR 9 2 rfl rfl rfl rfl (v:=.agg yc.toArray) (fun w' hf=>by rw[<-hyc.out];exact run_loadAt_mid w' _ _ 55 y.cells _ hf underlying55 rfl (by kernel_rfl)) ?_;try simp only[PT]
      refine sQ 10 fun K hK=>?_;simp only[GO];go_simp;refine CS.mono ?_;rintro e w7 ⟨bb,rfl,hbb,hb7⟩;have hS7:SB w.heap.size s t w7:=hPd.below hb7;have HS7:=hid hS7;have HB7:=hid (hbd.trans (hb7.mono hbd.size));have hc17:w7.rangeAt g1 (o1+j*30) x.cells:=range_below hc1' (by have:=(HS.t.at' j x hx.out);obtain⟨g',o',e1,e2,e3⟩:=this;rw[ha1.out]at e1;cases e1;have:=hbd.size;omega) hb7;have hc27:w7.rangeAt g2 (o2+j*30) y.cells:=range_below hc2' (by have:=(HT.t.at' j y hy.out);obtain⟨g',o',e1,e2,e3⟩:=this;rw[ha2.out]at e1;cases e1;have:=hbd.size;omega) hb7;replace hbb:=hid hbb;refine hK _ _ ⟨⟨fun _=>hS7,fun _=>hc17,fun _=>hc27,trivial⟩,?_⟩;clear hK K hb7 hc17 hc27 hc1' hc2';try simp only[PT]
      refine tQ [11] ?_;refine dQ (hKQ.out _ _ ?_);clear hKQ KQ;cases bb with
      |false=>
       go_wp2_with fail
       go_ret;refine Tells.no (fun e=>?_) HB7.out;have h7:=(hiff.1 e).ts;have h8:(s.ts.map TnC.t)[j]?=some x.t:=by rw[List.getElem?_map,hx.out];rfl
       have h9:(t.ts.map TnC.t)[j]?=some y.t:=by rw[List.getElem?_map,hy.out];rfl
       rw[h7,h9]at h8;have h10:=hbb.2 (Option.some.inj h8).symm;cases h10
      | true=>
       have hxy:Hid (x.t=y.t):=hid (hbb.1 rfl);clear hbb;go_wp2_with fail;go_roundw
       case rel=>
        refine⟨j+1,by go_num,by omega,HB7,HS7,hid fun m x' y' hm h7 h8=>?_⟩;by_cases hmj:m=j
        ·subst hmj;rw[hx.out]at h7;rw[hy.out]at h8;cases h7;cases h8;exact hxy.out
        exact hall.out m x' y' (by omega) h7 h8
       case measure=>simp[intOf];omega
     obtain rfl:j=s.ht.n:=by omega
     go_wp2_with fail
     go_ret;refine Tells.yes (hiff.2 ⟨hc1.out,hp.out,?_⟩) hbr.out;rw[map_eq_iff TnC.t s.ts t.ts (by rw[HS.t.len,HT.t.len,hl])];intro m x y hx hy;exact hall.out m x y (by have:=(List.getElem?_eq_some_iff.1 hx).1;rw[HS.t.len]at this;exact this) hx hy
   have dn:((s.ht.n:Int)==(t.ht.n:Int))=false:=by simpa using fun e=>hl (by omega)
   have hno:Hid (¬P):=hid fun e=>by have h7:=congrArg List.length (hiff.1 e).ts;rw[List.length_map,List.length_map,HS.t.len,HT.t.len]at h7;exact hl h7.symm
   replace hl:=hid hl;go_enter func10,ntmps10;go_wp2_with (first
    | (refine wLm 27 rfl rfl m1 underlying27 ?_)
    | (refine wLm 27 rfl rfl m2 underlying27 ?_))
   go_ret;exact Tells.no hno.out hb0.out
  have dn:(s.pages==t.pages)=false:=by simpa using hp
  have hno:Hid (¬P):=hid fun e=>hp (hiff.1 e).pages;replace hp:=hid hp;go_enter func10,ntmps10;go_wp2_with (first
   | (refine wLm 27 rfl rfl m1 underlying27 ?_)
   | (refine wLm 27 rfl rfl m2 underlying27 ?_))
  go_ret;exact Tells.no hno.out hb0.out
end
end Go.Proofs.YtkghejaimhoboaaGreatDoor
