/- Parts of the proof of ScriptRaws. -/
import Derived.Test.YtkghejaimhoboaaGreatDoorPr12
set_option linter.unusedSimpArgs false
set_option linter.unusedVariables false
set_option maxRecDepth 100000
set_option maxHeartbeats 8000000
namespace Go.Proofs.YtkghejaimhoboaaGreatDoor
open Go.RowKit Go.Shelf Go.Proofs.Tryz
section
attribute [local go_sem] Oper.semAt_some
section
variable {P:Program} {ops:Array Oper} {KQ:Exit->Act->World->Prop} {facts:List Fact} {taken:List Nat} {a:Act} {w:World}
structure StepAt (P:Program)(ops:Array Oper)(KQ:Exit->Act->World->Prop)(facts:List Fact)(taken:List Nat)(a:Act)(w:World)(j:Nat):Prop where
 out:∃oj,ops[j]?=some oj/\Region.wanted oj (yielded ops a.tmps)=true/\∀K:Act->World->Prop,(∀a' w',Both (HoldR (j::taken) facts w') (atR P ops KQ facts (j::taken) a' w')->K a' w')->oj.wp P a w K KQ
theorem stepM(L:List Nat)(h:∀j∈L,StepAt P ops KQ facts taken a w j)(hr:Region.ready .any ops (listedOf ops taken)=L:=by kernel_rfl)(hlt:taken.length<ops.size:=by decide)(hne:L≠[]:=by simp):atR P ops KQ facts taken a w:=by
 intro ht hcl hfr hpf;have e1:ops.size-taken.length=(ops.size-(0::taken).length)+1:=by simp only[List.length_cons];omega
 rw[e1];refine⟨fun h0=>absurd (hr.symm.trans h0) hne,fun i hi=>?_⟩;rw[hr]at hi;obtain⟨oj,hj,hw,hk⟩:=(h i hi).out;have hlj:i<ops.size:=(Array.getElem?_eq_some_iff.1 hj).1;have hrj:i∈Region.ready .any ops (listedOf ops taken):=by rw[hr];exact hi
 have ht':∀k∈i::taken,k<ops.size:=fun k hk'=>by exact(List.mem_cons.1 hk').elim (fun e=>e▸hlj) (ht k)
 unfold wpOp;rw[hj];dsimp only;rw[if_pos hw];refine .inl (hk _ fun a' w' hb=>?_);have hf:FR facts (listedOf ops (i::taken)) w':=fun f hf hl=>hb.one.mem f hf (by rw[listedOf_get _ _ ht']at hl;exact hl);exact⟨hf,hb.two ht' (hcl.step hrj) hf hpf⟩
theorem buildQ(i:Nat){oi:Oper}{ty:TypeId}{parts:Array (Nat×Operand)}(vs:Array (Nat×Value))(v:Value)(hi:ops[i]?=some oi)(hop:oi.op=.build ty parts)(hv:parts.toList.map (fun p=>(p.1,a.eval p.2))=vs.toList)(hr:∀W,(Instr.build ty vs).run P W=.ok v W)
  (h:atR P ops KQ facts (i::taken) (a.put oi.dst v) w) (hB:takeB ops (facts.map (·.1)) taken i=true:=by kernel_rfl) (hw:Region.wanted oi (yielded ops a.tmps)=true:=by kernel_rfl):atR P ops KQ facts taken a w:=by
 have hv:parts.map (fun p=>(p.1,a.eval p.2))=vs:=by apply Array.ext';rw[Array.toList_map];exact hv
 refine readQ i hi hB v hw (fun w' _=>?_) h;simp only[execOp,hop,hv,Sem.run_bind,hr,Result.andThen_ok,Sem.run_pure]
end
theorem match_fresh(w:World):Calls prog 222 #[] w fun e w'=>∃p,e=.returned (.pointer (some ⟨p,0,none⟩))/\Below w.heap.size w w':=by have hmm:= @run_makeMap prog;have hb:Below w.heap.size w (((w.alloc (.map #[] 0)).alloc (.map #[] 0)).alloc (.cells #[.map (some w.heap.size),.map (some (w.heap.size+1))] 286)):=((bel_refl.alloc nat_le_rfl _).alloc (by simp) _).alloc (by simp;omega) _;go_enter func222,ntmps222;go_wp2;go_ret;exact⟨_,rfl,hb⟩
theorem match_New(w:World):Calls prog 166 #[] w fun e w'=>∃p,e=.returned (.pointer (some ⟨p,0,none⟩))/\Below w.heap.size w w':=by
 have CF:=hid (match_fresh w);go_enter func166,ntmps166;go_wp2_with fail
 refine CF.mono ?_;rintro e w1 ⟨p,rfl,hb⟩;have hs:=hb.size;have HB:=hid hb;clear hb;go_wp2_with fail;go_ret;exact⟨_,rfl,HB.alloc hs _⟩
theorem brk_within(n a b:Int)(w:World):Calls prog 168 #[.int .i64 n,.int .i64 a,.int .i64 b] w fun e w'=>e=.returned (.bool (decide (a<=n)&&decide (n<=b)))/\w=w':=by
 by_cases h1:a<=n<;>by_cases h2:n<=b<;>
 ·go_enter func168,ntmps168;go_wp2;go_ret;simp[h1,h2]
end
section
attribute [local go_sem] Oper.semAt_some
theorem in_New_bad(most:Int)(w:World)(h:most<1\/1000<most):Calls prog 226 #[.int .i64 most] w fun e w'=>e=.returned (.tuple #[.pointer none,.int .i64 2])/\w=w':=by
 by_cases h1:most<1
 ·have d1:decide (most<1)=true:=decide_eq_true h1;go_enter func226,ntmps226;go_wp2
  go_returns
  exact⟨rfl,rfl⟩
 have d1:decide (most<1)=false:=decide_eq_false h1;have d2:decide (most>1000)=true:=decide_eq_true (by omega);go_enter func226,ntmps226;go_wp2
 go_returns
 exact⟨rfl,rfl⟩
structure NoP (w:World)(e:Ending)(w':World):Prop where
 out:∃x,e=.returned (.tuple #[x,.int .i64 2])/\Below w.heap.size w w'
theorem out_Of_bad(window room:Int)(cs:Array Value)(w:World)(hb:¬(1<=window/\window<=100/\1<=room/\room<=1000)):
  Calls prog 227 #[.int .i64 window,.int .i64 room,.agg cs,.slice none 0 0] w (NoP w):=by
 have CI:=hid (in_New 100 (w.alloc (.cells cs 136)) (by decide) (by decide));have hb0:=hid ((Below.refl w.heap.size w).alloc nat_le_rfl (.cells cs 136));have d0:∀a b:Int,a<b->decide (a<b)=true:=fun a b h=>decide_eq_true h;by_cases h1:window<1
 ·have d1:decide (window<1)=true:=decide_eq_true h1;clear d0;go_enter func227,ntmps227;go_wp2;apply wp_scope_fwd 0 rfl;go_wp2_with fail
  refine CI.mono ?_;rintro e w1 ⟨rfl, -,hb1⟩;have HB:=hid (hb0.trans (hb1.mono hb0.size));clear hb1;go_wp2;refine wp_goto ?_;refine⟨rfl,?_⟩;go_wp2;try simp only[Exit.noGoto_ret]
  go_returns
  exact⟨_,rfl,HB.out⟩
 have d1:decide (window<1)=false:=decide_eq_false h1;by_cases h2:100<window
 ·have d2:decide (100<window)=true:=decide_eq_true h2;clear d0;go_enter func227,ntmps227;go_wp2;apply wp_scope_fwd 0 rfl;go_wp2_with fail
  refine CI.mono ?_;rintro e w1 ⟨rfl, -,hb1⟩;have HB:=hid (hb0.trans (hb1.mono hb0.size));clear hb1;go_wp2;refine wp_goto ?_;refine⟨rfl,?_⟩;go_wp2;try simp only[Exit.noGoto_ret]
  go_returns
  exact⟨_,rfl,HB.out⟩
 have d2:decide (100<window)=false:=decide_eq_false h2;by_cases h3:room<1
 ·have d3:decide (room<1)=true:=decide_eq_true h3;clear d0;go_enter func227,ntmps227;go_wp2;apply wp_scope_fwd 0 rfl;go_wp2_with fail
  refine CI.mono ?_;rintro e w1 ⟨rfl, -,hb1⟩;have HB:=hid (hb0.trans (hb1.mono hb0.size));clear hb1;go_wp2;refine wp_goto ?_;refine⟨rfl,?_⟩;go_wp2;try simp only[Exit.noGoto_ret]
  go_returns
  exact⟨_,rfl,HB.out⟩
 have d3:decide (room<1)=false:=decide_eq_false h3;have d4:decide (1000<room)=true:=decide_eq_true (by omega);clear d0;go_enter func227,ntmps227;go_wp2;apply wp_scope_fwd 0 rfl;go_wp2_with fail
 refine CI.mono ?_;rintro e w1 ⟨rfl, -,hb1⟩;have HB:=hid (hb0.trans (hb1.mono hb0.size));clear hb1;go_wp2;refine wp_goto ?_;refine⟨rfl,?_⟩;go_wp2;try simp only[Exit.noGoto_ret]
 go_returns
 exact⟨_,rfl,HB.out⟩
theorem ses_Of_bad(win room most subs:Int)(client:List UInt8)(base:Nat)(g:Nat)(w:World)(hT:TzAt w)(hv:RowsAt w base (.slice (some ⟨g,0,none⟩) 1 1) [sessV client 0 1])
  (hbad:¬((1<=win/\win<=100)/\(1<=room/\room<=1000)/\(1<=most/\most<=1000)/\(1<=subs/\subs<=100))):
  Calls prog 170 #[.agg #[.int .i64 win,.int .i64 room,.int .i64 most,.int .i64 subs],.slice (some ⟨g,0,none⟩) 1 1] w (NoP w):=by
 have hbx:∀(o:Obj),Below w.heap.size w (w.alloc o):=fun o=>(Below.refl _ w).alloc nat_le_rfl o;have CP:=hid (fun o=>ses_parted base (.slice (some ⟨g,0,none⟩) 1 1) [sessV client 0 1] (w.alloc o) (ownsRow_below hv (hbx o)) (by simp));go_enter func170,ntmps170;go_wp2_with fail
 refine(CP _).mono ?_;rintro e w1 ⟨m,G,rfl,hpm,hml,hb1⟩;have hpm:=hid hpm;have hb1:=hid hb1;have HB:=hid hbx;clear hbx CP;obtain⟨a1,c1,hG1⟩:=own_slice (hpm.rows 1);have hk1:ofKind [sessV client 0 1] 1=[sessV client 0 1]:=by simp[ofKind,sessV]
 have hk2:ofKind [sessV client 0 1] 2=[]:=by simp[ofKind,sessV]
 have hk3:ofKind [sessV client 0 1] 3=[]:=by simp[ofKind,sessV]
 have hk4:ofKind [sessV client 0 1] 4=[]:=by simp[ofKind,sessV]
 have hr1:=hpm.rows 1;rw[hG1,hk1]at hr1;rw[hk1]at hG1;replace hr1:w1.ownsRow w.heap.size 136 9 (.slice a1 1 c1) 1 ([sessV client 0 1].flatMap RowV.cl):=ownsRow_mono hr1 (by simp);replace hG1:(G 1).getD (.slice none 0 0)=.slice a1 1 c1:=hG1;obtain⟨g1,rfl,hcap1,hrow1⟩:=own_range RowV.cl RowV.cllen (l:=[sessV client 0 1]) (n:=1) rfl hr1 (k:=0) rfl;have hg1l:=hid (hr1.lt g1 rfl);have hG2:(G 2).getD (.slice none 0 0)=.slice none 0 0:=by rw[hpm.no 2 hk2];rfl
 have hG3:(G 3).getD (.slice none 0 0)=.slice none 0 0:=by rw[hpm.no 3 hk3];rfl
 have hG4:(G 4).getD (.slice none 0 0)=.slice none 0 0:=by rw[hpm.no 4 hk4];rfl
 have hrow1:=hid hrow1;have hr1:=hid hr1;clear hk1 hk2 hk3 hk4;replace hG1:=hid hG1;replace hG2:=hid hG2;replace hG3:=hid hG3;replace hG4:=hid hG4;have hbox:=hid ((Blk.new w #[.int .i64 win,.int .i64 room,.int .i64 most,.int .i64 subs] 25).below hb1.out);go_wp2_with fail
 refine regionQ [(1000,fun w'=>IM .i64 w' m G)] (by kernel_rfl) ⟨hpm.map.below (bel_refl.drew),trivial⟩ fun KQ hKQ=>?_;try simp only[PT]
 refine tQ [0] ?_;refine lookQ 1 rfl (by kernel_rfl) (by kernel_rfl) rfl rfl rfl 0 rfl (by kernel_rfl) _ (fun w' hf=>look_pm hf 1 hG1.out) ?_;try simp only[PT]
 refine tQ [2] ?_;refine lookQ 3 rfl (by kernel_rfl) (by kernel_rfl) rfl rfl rfl 0 rfl (by kernel_rfl) _ (fun w' hf=>look_pm hf 2 hG2.out) ?_;try simp only[PT]
 refine tQ [4] ?_;refine lookQ 5 rfl (by kernel_rfl) (by kernel_rfl) rfl rfl rfl 0 rfl (by kernel_rfl) _ (fun w' hf=>look_pm hf 4 hG4.out) ?_;try simp only[PT]
 refine tQ [6,7,8] ?_;refine dQ (hKQ.out _ _ ?_);clear hKQ KQ;have s0:w1.drew.cell? ⟨w.heap.size,0,none⟩=some (.int .i64 win):=hbox.cell 0;have s1:w1.drew.cell? ⟨w.heap.size,1,none⟩=some (.int .i64 room):=hbox.cell 1;have s2:w1.drew.cell? ⟨w.heap.size,2,none⟩=some (.int .i64 most):=hbox.cell 2;have s3:w1.drew.cell? ⟨w.heap.size,3,none⟩=some (.int .i64 subs):=hbox.cell 3;go_wp2_with fail
 have hBx:=hid (((HB (.cells #[.int .i64 win,.int .i64 room,.int .i64 most,.int .i64 subs] 25)).trans (hb1.mono (by simp))).drew);by_cases hm:1<=most/\most<=1000
 ·refine(in_New most w1.drew hm.1 hm.2).mono ?_;rintro e w2 ⟨rfl,hin,hb2⟩;have hin:=hid hin;have hb2:=hid hb2;have hpm2:=hid (hpm.map.below (w':=w2) ⟨hb2.os,hb2.tape,hb2.output,hb2.size,hb2.block⟩);have HL3:=look_pm hpm2.out 3 hG3.out;have hbox2:=hid (hbox.drew.below hb2.out);clear s0 s1 s2 s3;have t0:w2.cell? ⟨w.heap.size,0,none⟩=some (.int .i64 win):=hbox2.cell 0;have t1:w2.cell? ⟨w.heap.size,1,none⟩=some (.int .i64 room):=hbox2.cell 1;have t3:w2.cell? ⟨w.heap.size,3,none⟩=some (.int .i64 subs):=hbox2.cell 3;have hB2x:=hid (hBx.trans (hb2.mono hBx.size));by_cases hs1:subs<1
  ·have d1:decide (subs<1)=true:=decide_eq_true hs1;go_wp2_with fail
   go_returns
   exact⟨_,rfl,hB2x.out⟩
  have d1:decide (subs<1)=false:=decide_eq_false hs1;by_cases hs2:100<subs
  ·have d2:decide (100<subs)=true:=decide_eq_true hs2;go_wp2_with fail
   go_returns
   exact⟨_,rfl,hB2x.out⟩
  have d2:decide (100<subs)=false:=decide_eq_false hs2;have d3:decide (subs<0)=false:=decide_eq_false (by omega);go_wp2_with fail
  clear HL3 t0 t1 t3;have hrow2:Hid (w2.rangeAt g1 0 (sessV client 0 1).cl):=hid (range_below2 hrow1.out hg1l.2 hb2.out);have hB1:=hid ((HB (.cells #[.int .i64 win,.int .i64 room,.int .i64 most,.int .i64 subs] 25)).trans (hb1.mono (by simp)));have hB2:=hid (hB1.drew.trans (hb2.mono (by have:=hB1.size;exact this)));have hT2:=hid (hT.below hB2.drew);refine regionQ [(1000,fun w'=>w'.cell? ⟨w.heap.size,0,none⟩=some (.int .i64 win)),(1000,fun w'=>w'.cell? ⟨w.heap.size,1,none⟩=some (.int .i64 room)),(1000,fun w'=>w'.rangeAt g1 0 (sessV client 0 1).cl),(9,fun w'=>IM .i64 w' m G)] (by kernel_rfl) ⟨hbox2.cell 0,hbox2.cell 1,hrow2.out,hpm2.out,trivial⟩ fun KQ hKQ=>?_;try simp only[PT]
  refine tQ [0] ?_;refine lQ 1 0 ?_;refine tQ [2] ?_;refine lQ 3 1 ?_;refine tQ [4,5] ?_;refine lR 6 2 rfl rfl rfl rfl (v:=.agg ((sessV client 0 1).cl:List Value).toArray) (fun w' hf=>run_loadAt_mid w' _ _ 136 ((sessV client 0 1).cl:List Value) _ hf underlying136 rfl (by kernel_rfl)) ?_;simp only[PT];refine tQ [7] ?_;refine lookQ 8 rfl (by kernel_rfl) (by kernel_rfl) rfl rfl rfl 3 rfl (by kernel_rfl) _ (fun w' hf=>look_pm hf 3 hG3.out) ?_;try simp only[PT]
  refine sQ 9 fun K hK=>?_;simp only[GO];go_simp;refine(out_Of_bad win room _ w2.drew (fun h=>hbad ⟨⟨h.1,h.2.1⟩,⟨h.2.2.1,h.2.2.2⟩,hm,by omega,by omega⟩)).mono ?_;rintro e w3 ⟨x,rfl,hb3⟩;have hB3:Hid (Below w2.drew.heap.size w2.drew w3):=hid hb3;have hB3x:=hid (hB2x.drew.trans (hb3.mono hB2x.size));clear hb3;have hbox3:=hid (hbox2.drew.below hB3.out);refine hK _ _ ⟨⟨fun _=>hbox3.cell 0,fun _=>hbox3.cell 1,fun _=>range_below2 hrow2.out (by have:=hg1l.2;have:=hb2.size;simp at this;omega) hB3.out,fun h=>absurd (show true=false from h) (by decide),trivial⟩,?_⟩;clear hK K;try simp only[PT]
  refine tQ [10,11,12,13,14] ?_;refine dQ (hKQ.out _ _ ?_);clear hKQ KQ;go_wp2_with fail
  go_returns
  exact⟨_,rfl,hB3x.out⟩
 refine(in_New_bad most w1.drew (by omega)).mono ?_;rintro e w2 ⟨rfl,rfl⟩;go_wp2_with fail
 go_returns
 exact⟨_,rfl,hBx.out⟩
end
end Go.Proofs.YtkghejaimhoboaaGreatDoor
