/- Parts of the proof of ScriptRaws. -/
import Derived.Test.YtkghejaimhoboaaGreatDoorPr24
set_option linter.unusedSimpArgs false
set_option linter.unusedVariables false
set_option maxRecDepth 100000
set_option maxHeartbeats 8000000
namespace Go.Proofs.YtkghejaimhoboaaGreatDoor
open Go.RowKit Go.Shelf Go.Proofs.Tryz
section
attribute [local go_sem] Oper.semAt_some
def suV(wi ro ib sb:Int):Array Value:=#[.int .i64 wi,.int .i64 ro,.int .i64 ib,.int .i64 sb]
def se0(wi ro ib sb:Int):Array Value:=#[.int .i64 wi,.int .i64 ro,.int .i64 ib,.int .i64 sb,.string ⟨#[]⟩,.int .i64 0,.int .i64 0,.int .i64 0,.int .i64 0,.slice none 0 0,.slice none 0 0,.slice none 0 0,.slice none 0 0,.slice none 0 0,.bool false,.bool false,.int .i64 0,.int .i64 0,.string ⟨#[]⟩,.string ⟨#[]⟩,.int .i64 0,.bool false]
def seV(wi ro ib sb:Int):Array Value:=#[.int .i64 wi,.int .i64 ro,.int .i64 ib,.int .i64 sb,.string ⟨#[120]⟩,.int .i64 wi,.int .i64 ro,.int .i64 0,.int .i64 1,.slice none 0 0,.slice none 0 0,.slice none 0 0,.slice none 0 0,.slice none 0 0,.bool false,.bool false,.int .i64 0,.int .i64 0,.string ⟨#[]⟩,.string ⟨#[]⟩,.int .i64 0,.bool false]
theorem se0_one(wi ro ib sb:Int):∀v∈(se0 wi ro ib sb).toList,v.oneCell'=true:=by simp[se0,Value.oneCell']
theorem seV_one(wi ro ib sb:Int):∀v∈(seV wi ro ib sb).toList,v.oneCell'=true:=by simp[seV,Value.oneCell']
structure S3 (w:World)(xs ss:Array Value)(W:World):Prop where
 low:Below w.heap.size w W
 bx:Blk W w.heap.size xs 25
 br:Blk W (w.heap.size+1) zS 130
 bs:Blk W (w.heap.size+1+1) ss 130
theorem S3.size{w:World}{xs ss:Array Value}{W:World}(h:S3 w xs ss W):w.heap.size+3<=W.heap.size:=h.bs.lt
theorem S3.step{w:World}{xs ss:Array Value}{W W':World}(h:S3 w xs ss W)(hb:Below W.heap.size W W'):S3 w xs ss W':=⟨h.low.trans (hb.mono h.low.size),h.bx.below hb,h.br.below hb,h.bs.below hb⟩
theorem S3.put{w:World}{xs ss ss':Array Value}{W W':World}(h:S3 w xs ss W)(hb:Blk W' (w.heap.size+1+1) ss' 130)(hw:Wrote [w.heap.size+1+1] W W'):S3 w xs ss' W':=
 ⟨h.low.trans (hw.below h.low.size (by simp;omega)),h.bx.keepW hw (by simp;omega),h.br.keepW hw (by simp),hb⟩
theorem S3.wrote{w:World}{xs ss:Array Value}{W W':World}{M:List Nat}(h:S3 w xs ss W)(hw:Wrote M W W')(hM:∀x∈M,w.heap.size+3<=x):S3 w xs ss W':=
 ⟨h.low.trans (hw.below h.low.size (fun x hx=>by have:=hM x hx;omega)),h.bx.keepW hw (fun hx=>by have:=hM _ hx;omega),h.br.keepW hw (fun hx=>by have:=hM _ hx;omega),h.bs.keepW hw (fun hx=>by have:=hM _ hx;omega)⟩
theorem S3.grow{w:World}{xs ss:Array Value}{W W':World}{r:Option Nat}(h:S3 w xs ss W)(hg:W.grownBy W' r)(hr:∀g,r=some g->w.heap.size+3<=g):S3 w xs ss W':=
 h.wrote (Wrote.of_grown hg (M:=r.toList) (fun k hk=>by simp[hk])) (fun x hx=>hr x (by simpa using hx))
theorem build_se(wi ro ib sb:Int)(W:World):(Instr.build 130 #[(0,.agg (suV wi ro ib sb))]).run prog W=.ok (.agg (se0 wi ro ib sb)) W:=by kernel_rfl
structure Of1 (w:World)(wi ro ib sb:Int)(ob:Nat)(b:Bool)(W:World):Prop where
 s:S3 w (suV wi ro ib sb) (se0 wi ro ib sb) W
 box:Blk W ob (if b then obV wi ro else obZ) 126
 lo:w.heap.size+3<=ob
 iff:b=true↔(1<=wi/\wi<=100)/\(1<=ro/\ro<=1000)
theorem r23_Of1(wi ro ib sb:Int)(g:Nat)(w:World)(hg:Blk w g oneR 136):Calls prog 83 #[.agg (suV wi ro ib sb),.slice (some ⟨g,0,none⟩) 1 1] w (OneP (fun b=>if b then seV wi ro ib sb else se0 wi ro ib sb) ((1<=wi/\wi<=100)/\(1<=ro/\ro<=1000)/\(1<=ib/\ib<=1000)/\(1<=sb/\sb<=100)) w):=by
 have x1:Blk ((w.alloc (.cells (suV wi ro ib sb) 25)).alloc (.cells zS 130)) w.heap.size (suV wi ro ib sb) 25:=(Blk.new _ _ _).alloc _;have r1:Blk ((w.alloc (.cells (suV wi ro ib sb) 25)).alloc (.cells zS 130)) (w.heap.size+1) zS 130:=Blk.new_at _ _ _ _ (by simp);have s2:Blk (((w.alloc (.cells (suV wi ro ib sb) 25)).alloc (.cells zS 130)).alloc (.cells zS 130)) (w.heap.size+1+1) zS 130:=Blk.new_at _ _ _ _ (by simp);have S0:=hid (show S3 w (suV wi ro ib sb) zS _ from⟨((bel_refl.alloc nat_le_rfl _).alloc (by simp) _).alloc (by simp;omega) _,x1.alloc _,r1.alloc _,s2⟩);have HG:=hid (fun W (h:Below w.heap.size w W)=>hg.below h);clear r1 hg;unfold zS at x1 s2;go_enter func83,ntmps83;go_upto_region 2 with(first
  | (refine wL 25 rfl rfl x1 underlying25 ?_)
  | (refine wBuild 130 rfl #[(0,.agg (suV wi ro ib sb))] rfl (.agg (se0 wi ro ib sb)) (build_se wi ro ib sb) ?_)
  | (refine wS 130 22 rfl (w.heap.size+1+1) _ (se0 wi ro ib sb) rfl rfl s2 rfl rfl (se0_one wi ro ib sb) ?_;intro w3 hw3 hr3))
 have SS:=S0.put hw3 hr3;have k0:w3.cell? ⟨w.heap.size,0,none⟩=some (.int .i64 wi):=SS.bx.cell 0;have k1:w3.cell? ⟨w.heap.size,1,none⟩=some (.int .i64 ro):=SS.bx.cell 1;have k2:w3.cell? ⟨w.heap.size,2,none⟩=some (.int .i64 ib):=SS.bx.cell 2;have k3:w3.cell? ⟨w.heap.size,3,none⟩=some (.int .i64 sb):=SS.bx.cell 3;clear x1 s2 hw3 hr3 S0;by_cases q1:ib<1
 ·have d1:decide (ib<1)=true:=decide_eq_true q1;go_wp2_with (first
   | (refine wL 130 rfl rfl SS.bs underlying130 ?_)
   | (refine wS 130 22 rfl (w.heap.size+1) _ (se0 wi ro ib sb) rfl rfl SS.br rfl rfl (se0_one wi ro ib sb) ?_;intro w9 hw9 hr9))
  refine bodyPost_ret (results_ct1 results83 rfl (run_loadVar_blk hw9 130 underlying130 rfl (by kernel_rfl)) rfl) rfl ?_;exact⟨⟨false,rfl,by simp;omega⟩,SS.low.trans (hr9.below SS.low.size (by simp))⟩
 have d1:decide (ib<1)=false:=decide_eq_false q1;by_cases q2:1000<ib
 ·have d2:decide (1000<ib)=true:=decide_eq_true q2;go_wp2_with (first
   | (refine wL 130 rfl rfl SS.bs underlying130 ?_)
   | (refine wS 130 22 rfl (w.heap.size+1) _ (se0 wi ro ib sb) rfl rfl SS.br rfl rfl (se0_one wi ro ib sb) ?_;intro w9 hw9 hr9))
  refine bodyPost_ret (results_ct1 results83 rfl (run_loadVar_blk hw9 130 underlying130 rfl (by kernel_rfl)) rfl) rfl ?_;exact⟨⟨false,rfl,by simp;omega⟩,SS.low.trans (hr9.below SS.low.size (by simp))⟩
 have d2:decide (1000<ib)=false:=decide_eq_false q2;by_cases q3:sb<1
 ·have d3:decide (sb<1)=true:=decide_eq_true q3;go_wp2_with (first
   | (refine wL 130 rfl rfl SS.bs underlying130 ?_)
   | (refine wS 130 22 rfl (w.heap.size+1) _ (se0 wi ro ib sb) rfl rfl SS.br rfl rfl (se0_one wi ro ib sb) ?_;intro w9 hw9 hr9))
  refine bodyPost_ret (results_ct1 results83 rfl (run_loadVar_blk hw9 130 underlying130 rfl (by kernel_rfl)) rfl) rfl ?_;exact⟨⟨false,rfl,by simp;omega⟩,SS.low.trans (hr9.below SS.low.size (by simp))⟩
 have d3:decide (sb<1)=false:=decide_eq_false q3;by_cases q4:100<sb
 ·have d4:decide (100<sb)=true:=decide_eq_true q4;go_wp2_with (first
   | (refine wL 130 rfl rfl SS.bs underlying130 ?_)
   | (refine wS 130 22 rfl (w.heap.size+1) _ (se0 wi ro ib sb) rfl rfl SS.br rfl rfl (se0_one wi ro ib sb) ?_;intro w9 hw9 hr9))
  refine bodyPost_ret (results_ct1 results83 rfl (run_loadVar_blk hw9 130 underlying130 rfl (by kernel_rfl)) rfl) rfl ?_;exact⟨⟨false,rfl,by simp;omega⟩,SS.low.trans (hr9.below SS.low.size (by simp))⟩
 have d4:decide (100<sb)=false:=decide_eq_false q4;have SSh:=hid SS;clear SS;go_wp2_with fail;clear k0 k1 k2 k3 d1 d2 d3 d4;go_loopw [7,8,9] (fun f o i wr=>o=.slice none 0 0/\((i=.int .i64 0/\f=.slice none 0 0/\wr=w3)\/(i=.int .i64 1/\∃a c,f=.slice a 1 c/\Hid (S3 w (suV wi ro ib sb) (se0 wi ro ib sb) wr)/\Hid (wr.ownsRow (w.heap.size+3) 136 9 (.slice a 1 c) 1 oneR.toList)))) (fun _ _ i _=>1-(intOf i).toNat)
 case atStart=>exact⟨rfl,.inl ⟨rfl,rfl,rfl⟩⟩
 case round=>
  obtain⟨rfl,⟨rfl,rfl,rfl⟩ | ⟨rfl,a7,c7,rfl,SS,how⟩⟩:=hrel
  ·have g3:=HG _ SSh.low;have g4:wr.cell? ⟨g,0,none⟩=some (.int .i64 1):=g3.cell 0;go_wp2_with (first
    | (refine wL 136 rfl rfl g3 underlying136 ?_)
    | (refine wpList_plain rfl fun _ hK=>wp_slice_one _ rfl eRow (by decide) (by decide) (.agg oneR) rfl rfl (hK _ _ ?_))
    | (at_builtin;refine append_grp rfl _ _ rfl eRow (by decide) (w.heap.size+3) (.slice none 0 0) 0 [] rfl (World.ownsRow_nil _ _ _ _) wr.heap.size oneR.toList 136 rfl (Blk.new _ _ _) rfl oneR_one (by decide) (by decide) (by have:=SSh.size;simp;omega) ?_;intro v4 w4 how4 hg4 hn4;obtain⟨a4,c4,rfl⟩:=own_slice how4))
   refine⟨⟨rfl,.inr ⟨by go_num,a4,c4,rfl,hid ?_,hid how4⟩⟩,by simp[intOf]⟩;exact(SSh.step (bel_refl.alloc nat_le_rfl (.cells oneR 136))).grow hg4 (fun g e=>(by cases e))
  obtain⟨wx,hwx⟩:∃W,W=wr:=⟨_,rfl⟩;subst hwx;have hls:LsAt (fun r:RowV=>r.vals.toList) 9 wx a7 1 c7 [sessV [120] 0 1]:=ls_of_own (f:=fun r:RowV=>r.vals.toList) (size:=9) (xs:=[sessV [120] 0 1]) (fun _=>rfl) (show wx.ownsRow (w.heap.size+3) 136 9 (.slice a7 1 c7) 1 ([sessV [120] 0 1].flatMap fun r:RowV=>r.vals.toList)from how.out) rfl;obtain⟨g7,o7,ha,hlt7,hrg⟩:=hls.at' 0 _ rfl;subst ha;have R7:=range_below hrg hlt7 bel_refl.drew;replace R7:wx.drew.rangeAt g7 o7 oneR.toList:=R7;clear hls hrg how;go_upto_region 18 with fail;try simp only[PT]
  go_cut [10,11]from 78 (fun p s wy=>∃(ob:Nat)(b:Bool),p=.pointer (some ⟨ob,0,none⟩)/\s=.bool b/\Hid (Of1 w wi ro ib sb ob b wy))
  case first=>
   have SD:=SS.out.step bel_refl.drew;refine regionQ [(1000,fun w'=>Blk w' w.heap.size (suV wi ro ib sb) 25),(8,fun w'=>w'.rangeAt g7 o7 oneR.toList)] (by kernel_rfl) ⟨SD.bx,R7,trivial⟩ fun KQ hKQ=>?_;try simp only[PT]
   obtain⟨WD,hWD⟩:=gen_of wx.drew;rw[hWD]at SD R7 ⊢;have hlt8:g7<WD.heap.size:=by rw[<-hWD];simpa using hlt7
   clear hWD;refine tQ [0] ?_;refine loadQ 1 rfl (by kernel_rfl) (by kernel_rfl) rfl rfl 0 rfl (by kernel_rfl) (.int .i64 wi) (fun w' hf=>by(have k0:w'.cell? ⟨w.heap.size,0,none⟩=some (.int .i64 wi):=hf.cell 0;go_simp<;>with_reducible rfl)) ?_;simp only[PT];refine tQ [2] ?_;refine loadQ 3 rfl (by kernel_rfl) (by kernel_rfl) rfl rfl 0 rfl (by kernel_rfl) (.int .i64 ro) (fun w' hf=>by(have k0:w'.cell? ⟨w.heap.size,1,none⟩=some (.int .i64 ro):=hf.cell 1;go_simp<;>with_reducible rfl)) ?_;simp only[PT];refine tQ [4,5] ?_;refine lR 6 1 rfl rfl rfl rfl (v:=.agg (oneR.toList:List Value).toArray) (fun w' hf=>run_loadAt_mid w' _ _ 136 (oneR.toList:List Value) _ hf underlying136 rfl (by kernel_rfl)) ?_;simp only[PT];refine tQ [7] ?_;refine stepM [8,12] (fun j hj=>?_);have hj:j=8\/j=12:=by simpa using hj
   rcases hj with rfl | rfl
   ·refine⟨⟨_,rfl,by kernel_rfl,fun K hK=>?_⟩⟩;go_simp;refine(r22_Of1 wi ro _).mono ?_;rintro e w5 ⟨⟨b,rfl,hb⟩,hb5⟩;obtain⟨oc,hoc⟩:=gen_of (if b then obV wi ro else obZ);have hz8:oc.size=8:=by rw[<-hoc];cases b<;>rfl
    have ho8:∀v∈oc.toList,v.oneCell'=true:=by rw[<-hoc];cases b;exact obZ_one;exact obV_one wi ro
    rw[hoc];have S5:=SD.step hb5;refine hK _ _ ⟨⟨fun _=>S5.bx,(fun h=>by cases h),trivial⟩,?_⟩;clear hK K;try simp only[PT]
    refine tQ [9,10,11] ?_;refine sQ 12 fun K hK=>?_;simp only[GO];go_simp;have S6:=S5.step (bel_refl.alloc nat_le_rfl (.cells obZ 126));refine hK _ _ ⟨⟨fun _=>S6.bx,(fun h=>by cases h),trivial⟩,?_⟩;clear hK K;try simp only[PT]
    refine sQ 13 fun K hK=>?_;simp only[GO];refine wW 126 8 rfl w5.heap.size obZ oc rfl rfl (Blk.new _ _ _) hz8 rfl ho8 fun w7 hw7 hr7=>?_;have S7:=S6.wrote hr7 (by have:=S5.size;simp;omega);refine hK _ _ ⟨⟨fun _=>S7.bx,(fun h=>by cases h),trivial⟩,?_⟩;clear hK K;try simp only[PT]
    refine tQ [14] ?_;refine dQ (hKQ.out _ _ ?_);clear hKQ KQ;have H9:=hid (show Of1 w wi ro ib sb _ b w7 from⟨S7,by rw[hoc];exact hw7,by have:=S5.size;omega,hb⟩);go_wp2;go_meet
    case rel=>exact⟨_,_,rfl,rfl,H9⟩
   refine⟨⟨_,rfl,by kernel_rfl,fun K hK=>?_⟩⟩;go_simp;have S6:=SD.step (bel_refl.alloc nat_le_rfl (.cells obZ 126));have Z6:=Blk.new WD obZ 126;have R8:(WD.alloc (.cells obZ 126)).rangeAt g7 o7 oneR.toList:=range_below R7 hlt8 (bel_refl.alloc nat_le_rfl _);refine hK _ _ ⟨⟨fun _=>S6.bx,fun _=>R8,trivial⟩,?_⟩;clear hK K;try simp only[PT]
   refine sQ 8 fun K hK=>?_;simp only[GO];go_simp;refine(r22_Of1 wi ro _).mono ?_;rintro e w5 ⟨⟨b,rfl,hb⟩,hb5⟩;obtain⟨oc,hoc⟩:=gen_of (if b then obV wi ro else obZ);have hz8:oc.size=8:=by rw[<-hoc];cases b<;>rfl
   have ho8:∀v∈oc.toList,v.oneCell'=true:=by rw[<-hoc];cases b;exact obZ_one;exact obV_one wi ro
   rw[hoc];have S7:=S6.step hb5;have Z7:=Z6.below hb5;refine hK _ _ ⟨⟨fun _=>S7.bx,(fun h=>by cases h),trivial⟩,?_⟩;clear hK K;try simp only[PT]
   refine tQ [9,10,11] ?_;refine sQ 13 fun K hK=>?_;simp only[GO];refine wW 126 8 rfl WD.heap.size obZ oc rfl rfl Z7 hz8 rfl ho8 fun w7 hw7 hr7=>?_;have S8:=S7.wrote hr7 (by have:=SD.size;simp;omega);refine hK _ _ ⟨⟨fun _=>S8.bx,(fun h=>by cases h),trivial⟩,?_⟩;clear hK K;try simp only[PT]
   refine tQ [14] ?_;refine dQ (hKQ.out _ _ ?_);clear hKQ KQ;have H9:=hid (show Of1 w wi ro ib sb _ b w7 from⟨S8,by rw[hoc];exact hw7,by have:=SD.size;omega,hb⟩);go_wp2;go_meet
   case rel=>exact⟨_,_,rfl,rfl,H9⟩
  case rest=>
   obtain⟨ob,b,rfl,rfl,hO⟩:=hcut;obtain⟨wy,hwy⟩:∃W,W=wc:=⟨_,rfl⟩;subst hwy;have SS:=hO.out.s;cases b with
   | false=>
    have hb:=hO.out.iff;simp only[Bool.false_eq_true,false_iff]at hb;go_wp2_with (first
     | (refine wL 130 rfl rfl SS.bs underlying130 ?_)
     | (refine wS 130 22 rfl (w.heap.size+1) _ (se0 wi ro ib sb) rfl rfl SS.br rfl rfl (se0_one wi ro ib sb) ?_;intro w9 hw9 hr9))
    refine bodyPost_ret (results_ct1 results83 rfl (run_loadVar_blk hw9 130 underlying130 rfl (by kernel_rfl)) rfl) rfl ?_;exact⟨⟨false,rfl,by simp;omega⟩,SS.low.trans (hr9.below SS.low.size (by simp))⟩
   | true=>
    have hb:=hid (hO.out.iff.1 rfl);have ho:Blk wy ob (obV wi ro) 126:=hO.out.box;try simp only[Bool.not_true]
    go_upto_region 22 with(first
     | (refine wL 126 rfl rfl ho underlying126 ?_)
     | (refine wpList_store_mid rfl 126 130 _ _ rfl 8 (fun w=>by kernel_rfl) (w.heap.size+1+1) 4 _ (obV wi ro) rfl rfl SS.bs rfl (by exact(by decide:4+8<=22)) (obV_one wi ro) ?_;intro w7 hw7 hr7))
    have S7:Hid (S3 w (suV wi ro ib sb) (seV wi ro ib sb) w7):=hid (SS.put hw7 hr7);clear SS hw7 hr7 ho hO;go_wp2_with fail;go_loopw [12,13,14,15,16,17,18,19] (fun i s13 s14 s15 s16 s17 s18 s19 wr=>∃j:Nat,j<=1/\i=.int .i64 j/\Hid (S3 w (suV wi ro ib sb) (seV wi ro ib sb) wr)) (fun i _ _ _ _ _ _ _ _=>1-(intOf i).toNat)
    case atStart=>exact⟨0,by decide,by go_num,S7⟩
    case round=>
     obtain⟨j,hj,rfl,S8⟩:=hrel;obtain⟨wz,hwz⟩:∃W,W=wr:=⟨_,rfl⟩;subst hwz;by_cases hj0:j=0
     ·subst hj0;have g3:=HG _ S8.out.low;have BN:=Blk.new wz (RowV.vals ⟨0,[],0,0,[],[],0,false,0⟩) 136;go_wp2_with (first
       | (refine wL 136 rfl rfl g3 underlying136 ?_)
       | (refine wS 136 9 rfl wz.heap.size _ oneR rfl rfl BN rfl rfl oneR_one ?_;intro w8 hw8 hr8;have k8:w8.cell? ⟨wz.heap.size,0,none⟩=some (.int .i64 1):=hw8.cell 0))
      refine⟨⟨1,by decide,by go_num,hid ?_⟩,by simp[intOf]⟩;exact(S8.out.step (bel_refl.alloc nat_le_rfl (.cells (RowV.vals ⟨0,[],0,0,[],[],0,false,0⟩) 136))).wrote hr8 (by have:=S8.out.size;simp;omega)
     obtain rfl:j=1:=by omega
     have SD:=S8.out.step bel_refl.drew;go_upto_region 39 with fail
     try simp only[PT]
     refine regionQ [(1000,fun w'=>Blk w' (w.heap.size+1+1) (seV wi ro ib sb) 130),(1000,fun w'=>Blk w' w.heap.size (suV wi ro ib sb) 25)] (by kernel_rfl) ⟨SD.bs,SD.bx,trivial⟩ fun KQ hKQ=>?_;try simp only[PT]
     obtain⟨WD,hWD⟩:=gen_of wz.drew;rw[hWD]at SD ⊢;clear hWD;have d9:decide (0<=sb)=true:=decide_eq_true (by omega);refine lR 0 0 rfl rfl rfl rfl (fun w' hf=>run_load_blk hf 130 underlying130 rfl (by kernel_rfl)) ?_;simp only[PT];refine tQ [1] ?_;refine loadQ 2 rfl (by kernel_rfl) (by kernel_rfl) rfl rfl 0 rfl (by kernel_rfl) (.slice none 0 0) (fun w' hf=>by(have k0:w'.cell? ⟨w.heap.size+1+1,13,none⟩=some (.slice none 0 0):=hf.cell 13;go_simp<;>with_reducible rfl)) ?_;simp only[PT];refine tQ [3,4] ?_;refine loadQ 5 rfl (by kernel_rfl) (by kernel_rfl) rfl rfl 1 rfl (by kernel_rfl) (.int .i64 sb) (fun w' hf=>by(have k0:w'.cell? ⟨w.heap.size,3,none⟩=some (.int .i64 sb):=hf.cell 3;go_simp<;>with_reducible rfl)) ?_;simp only[PT];refine tQ [6] ?_;refine sQ 7 fun K hK=>?_;simp only[GO];refine wW 130 22 rfl (w.heap.size+1) _ (seV wi ro ib sb) rfl rfl SD.br rfl rfl (seV_one wi ro ib sb) fun w9 hw9 hr9=>?_;refine hK _ _ ⟨⟨fun _=>SD.bs.keepW hr9 (by simp),fun _=>SD.bx.keepW hr9 (by simp),trivial⟩,?_⟩;clear hK K;try simp only[PT]
     refine tQ [8] ?_;refine dQ (hKQ.out _ _ ?_);clear hKQ KQ;go_wp2;refine bodyPost_ret (results_ct1 results83 rfl (run_loadVar_blk hw9 130 underlying130 rfl (by kernel_rfl)) rfl) rfl ?_;exact⟨⟨true,rfl,by have:=hb.out;simp;omega⟩,SD.low.trans (hr9.below SD.low.size (by simp))⟩
theorem build_one(W:World):(Instr.build 136 #[(0,.int .i64 1),(1,.string ⟨#[120]⟩),(3,.int .i64 1)]).run prog W=.ok (.agg oneR) W:=by kernel_rfl
theorem r24_Config(c:CfV)(w:World):Calls prog 35 #[.agg c.cl.toArray] w (Tells (cfOK c) w):=by
 obtain⟨R,hR⟩:=gen_of (cfOK c);have hR:Hid (R↔cfOK c):=hid (by rw[hR]);unfold cfOK at hR;obtain⟨wi,ro,ib,sb,se,re,sec⟩:=c;dsimp only at hR;rw[show cfOK ⟨wi,ro,ib,sb,se,re,sec⟩=R from propext (by rw[hR.out];exact Iff.rfl)];obtain⟨bs,hbs⟩:=gen_of ((⟨sec.toArray⟩:ByteArray):ByteArray);obtain⟨bn,hbn⟩:=gen_of sec.length;have hsz:bs.size=bn:=by rw[<-hbs,<-hbn];simp[ByteArray.size]
 rw[hbn]at hR;obtain⟨cc,hcc⟩:=gen_of ((CfV.cl ⟨wi,ro,ib,sb,se,re,sec⟩).toArray);have hB:Blk (w.alloc (.cells cc 27)) w.heap.size cc 27:=Blk.new _ _ _;have kc:Hid (∀W,Blk W w.heap.size cc 27->W.cell? ⟨w.heap.size,4,none⟩=some (.int .i64 se)/\W.cell? ⟨w.heap.size,5,none⟩=some (.int .i64 re)/\W.cell? ⟨w.heap.size,6,none⟩=some (.string bs)):=hid fun W hb=>by rw[hb.cell,hb.cell,hb.cell,<-hcc,<-hbs];exact⟨rfl,rfl,rfl⟩
 have hm:(w.alloc (.cells cc 27)).rangeAt w.heap.size 0 (suV wi ro ib sb).toList:=hB.mid [] (suV wi ro ib sb).toList [.int .i64 se,.int .i64 re,.string bs] (by rw[<-hcc,<-hbs];rfl);rw[hcc];have b0:Hid (Below w.heap.size w (w.alloc (.cells cc 27))):=hid (bel_refl.alloc nat_le_rfl _);have hBh:=hid hB;clear hcc hbs hbn hB;have G:Blk ((w.alloc (.cells cc 27)).alloc (.cells oneR 136)) (w.heap.size+1) oneR 136:=Blk.new_at _ _ _ _ (by simp);have b1:=hid (b0.alloc b0.size (.cells oneR 136));have B1:=hid (hBh.alloc (.cells oneR 136));have CO:=hid (r23_Of1 wi ro ib sb _ _ G);clear G;go_enter func35,ntmps35;go_wp2_with (first
  | (refine wLm 25 rfl rfl hm underlying25 ?_)
  | (refine wBuild 136 rfl #[(0,.int .i64 1),(1,.string ⟨#[120]⟩),(3,.int .i64 1)] rfl (.agg oneR) build_one ?_)
  | (refine wpList_plain rfl fun _ hK=>wp_slice_one _ rfl eRow (by decide) (by decide) (.agg oneR) rfl rfl (hK _ _ ?_)))
 refine CO.mono ?_;rintro e w5 ⟨⟨b,rfl,hb⟩,hb5⟩;obtain⟨oc,hoc⟩:=gen_of (if b then seV wi ro ib sb else se0 wi ro ib sb);have hz8:oc.size=22:=by rw[<-hoc];cases b<;>rfl
 have ho8:∀v∈oc.toList,v.oneCell'=true:=by rw[<-hoc];cases b;exact se0_one wi ro ib sb;exact seV_one wi ro ib sb
 rw[hoc];have B5:=hid (b1.trans (hb5.mono b1.size));have C5:=hid (B1.below hb5);have BN:=Blk.new w5 zS 130;replace hb:=hid hb;replace ho8:=hid ho8;clear hm CO hb5 b1 B1 hBh b0 hoc;unfold zS at BN;go_upto_region 2 with(refine wS 130 22 rfl w5.heap.size _ oc rfl rfl BN hz8 rfl ho8.out ?_;intro w6 hw6 hr6)
 have C6:=(C5.alloc (.cells zS 130)).keepW hr6 (by have:=C5.lt;simp;omega);have B6:=hid ((B5.alloc B5.size (.cells zS 130)).trans (hr6.below (by have:=B5.size;simp;omega) (by have:=B5.size;simp;omega)));have k:=kc _ C6;obtain⟨k4,k5,k6⟩:=k;clear B5 C5 C6 BN hw6 hr6 ho8 hz8;have B5:=B6;clear B6;try simp only[PT]
 cases b with
 |false=>
  have hb:=hb.out;simp only[Bool.false_eq_true,false_iff]at hb;go_wp2_with fail
  go_ret;exact Tells.no (fun h9=>by have:=hR.1 h9;omega) B5.out
 | true=>
  have hb:=hb.1 rfl;replace hR:Hid (R↔(1<=se/\se<=40)/\(0<=re/\re<=1000)/\bn<=200):=hid (by rw[hR.out];exact⟨fun h=>h.2.2.2.2,fun h=>⟨hb.1,hb.2.1,hb.2.2.1,hb.2.2.2,h⟩⟩);clear hb;by_cases q1:¬1<=se
  ·have d1:decide (1<=se)=false:=decide_eq_false q1;go_wp2_with fail
   go_ret;exact Tells.no (fun h9=>by have:=hR.1 h9;omega) B5.out
  have d1:decide (1<=se)=true:=decide_eq_true (by omega);by_cases q2:¬se<=40
  ·have d2:decide (se<=40)=false:=decide_eq_false q2;go_wp2_with fail
   go_ret;exact Tells.no (fun h9=>by have:=hR.1 h9;omega) B5.out
  have d2:decide (se<=40)=true:=decide_eq_true (by omega);by_cases q3:¬0<=re
  ·have d3:decide (0<=re)=false:=decide_eq_false q3;go_wp2_with fail
   go_ret;exact Tells.no (fun h9=>by have:=hR.1 h9;omega) B5.out
  have d3:decide (0<=re)=true:=decide_eq_true (by omega);by_cases q4:¬re<=1000
  ·have d4:decide (re<=1000)=false:=decide_eq_false q4;go_wp2_with fail
   go_ret;exact Tells.no (fun h9=>by have:=hR.1 h9;omega) B5.out
  have d4:decide (re<=1000)=true:=decide_eq_true (by omega);by_cases q5:¬bn<=200
  ·have d5:decide ((bn:Int)<=200)=false:=decide_eq_false (by omega);go_wp2_with fail
   go_ret;exact Tells.no (fun h9=>by have:=hR.1 h9;omega) B5.out
  have d5:decide ((bn:Int)<=200)=true:=decide_eq_true (by omega);go_wp2_with fail
  go_ret;exact Tells.yes (hR.2 (by omega)) B5.out
end
end Go.Proofs.YtkghejaimhoboaaGreatDoor
