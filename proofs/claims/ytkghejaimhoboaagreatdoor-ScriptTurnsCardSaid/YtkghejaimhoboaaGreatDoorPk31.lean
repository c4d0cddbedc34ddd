/- Parts of the proof of ScriptTurns. -/
import Derived.Test.YtkghejaimhoboaaGreatDoorPk28
import Derived.Test.YtkghejaimhoboaaGreatDoorPk21
set_option linter.unusedSimpArgs false
set_option linter.unusedVariables false
set_option maxRecDepth 100000
set_option maxHeartbeats 8000000
namespace Go.Proofs.YtkghejaimhoboaaGreatDoor
open Go.RowKit Go.Shelf Go.Proofs.Tryz
section
attribute [local go_sem] Oper.semAt_some
def kX:dE:=⟨ig 5,bo,bQ⟩
def kS(g:Nat):lj:=⟨⟨1,1,1,1,1,0,[]⟩,2,⟨some ⟨g,0,none⟩,1,1⟩,[kX]⟩
def kL:List UInt8:=[0,1,0,1,0,1,0,1,0,1,0,0,0,2,0,0,5,0,0]
theorem XC{w:World}{g:Nat}(h:ar w g kX.cells.toArray 55):(kS g).In w:=
 ⟨⟨rfl,Nat.le_refl _,by show 1<=maxLen;decide,fun i x hx=>by
   cases i with
   |zero=>
    have TH:kX=x:=by simpa[kS]using hx
    subst TH;refine⟨g,0,rfl,h.lt,fun j v hj=>?_⟩;rw[h.cell];simp only[Nat.zero_mul,Nat.zero_add];rw[<-Array.getElem?_toList];exact hj
   | succ i=>simp[kS]at hx⟩,fun x hx=>by
   have TH:x=kX:=by simpa[kS]using hx
   subst TH;exact⟨⟨aW.nil w,aW.nil w,aW.nil w⟩,aW.nil w⟩⟩
theorem XD:ot ⟨1,1,1,1,1,0,[]⟩:=by unfold ot;decide
theorem Eh(c:nS):vr c:=fun W hT=>OD c W hT
theorem TI:vr ⟨1,1,1,1,1,0,[]⟩:=Eh _
theorem Pb:np kX:=fun c v hv=>by
 have e:v=jc:=by have:df c kX.t.kind=some jc:=rfl;rw[this]at hv;cases hv;rfl
 subst e;refine⟨_,_,_,_,_,_,_,_,rfl,enters_of func45 (by kernel_rfl) rfl,enters_of func49 (by kernel_rfl) rfl,fun W hi hb=>?_,fun W=>?_⟩
 ·refine(ml kX.t kX.h kX.hp W).mono fun e w' ⟨he,hb⟩=>⟨true,he.trans rfl,?_,hb⟩;simp[mf,kX,ig]
 refine(yA kX.t kX.h kX.hp W).mono fun e w' ⟨he,hb⟩=>⟨⟨ig 0,bo,bQ⟩,he.trans rfl,?_,fun W' h=>⟨⟨aW.nil W',aW.nil W',aW.nil W'⟩,aW.nil W'⟩,hb⟩;rfl
theorem Ma(w:World):jr fR w kX:=fun c v hv=>by
 have e:v=jc:=by have:df c kX.t.kind=some jc:=rfl;rw[this]at hv;cases hv;rfl
 subst e;refine⟨_,_,_,_,_,_,_,_,rfl,enters_of func47 (by kernel_rfl) rfl,fun W F p l hb hW hl hF=>?_⟩;refine(lv _ _ W).mono fun e w' ⟨he,hb⟩=>⟨F,gO.ag hb,.inl ⟨?_,he,?_⟩⟩
 ·have:dC fR kX.t=[]:=rfl;rw[this];unfold fits;rw[decide_eq_true_eq];simpa using hl
 have:dC fR kX.t=[]:=rfl;rw[this,List.append_nil];exact hW.ag hb
theorem Mb(g:Nat):ij fR (kS g).sc=kL:=by kernel_rfl
theorem Mc(g:Nat):bZ (kS g).sc:=⟨XD,by show(2:Int)<=2/\(2:Int)<=4096;decide,by show 1<=2000;decide,fun t ht=>by
 have:t=kX.t:=by simpa[kS,lj.sc]using ht
 subst this;exact⟨by simp[mf,kX,ig],rfl⟩⟩
theorem Md:bh fR false (kL.take 18)=none:=by kernel_rfl
theorem Me:bh fR false []=none:=by kernel_rfl
theorem yX(w:World)(hT:TzAt w):Calls prog 7 #[] w fun e w'=>e=.returned (.bool true)/\Below w.heap.size w w':=by
 obtain⟨w1,hW1⟩:=ae ((w.alloc (.cells #[.int .i64 5,.int .i64 0,.int .i64 0,.bool false,.bool false,.int .i64 0,.string ⟨#[]⟩,.string ⟨#[]⟩,.int .i64 0,.string ⟨#[]⟩,.bool false,.int .i64 0,.bool false,.string ⟨#[]⟩,.string ⟨#[]⟩,.int .i64 0,.bool false,.bool false,.bool false,.string ⟨#[]⟩,.string ⟨#[]⟩,.bool false,.int .i64 0,.slice none 0 0,.slice none 0 0,.slice none 0 0,.string ⟨#[]⟩,.int .i64 0,.int .i64 0,.slice none 0 0] 55)).alloc (.cells #[.int .i64 1,.int .i64 1,.int .i64 1,.int .i64 1,.int .i64 1,.int .i64 0,.string ⟨#[]⟩,.int .i64 2,.slice (some ⟨w.heap.size,0,none⟩) 1 1] 30));have hb1:Hid (Below w.heap.size w w1):=af (by rw[<-hW1];exact(ai.alloc ah _).alloc (by simp) _);have g1:ar w1 w.heap.size kX.cells.toArray 55:=by rw[<-hW1];exact(ar.new w kX.cells.toArray 55).alloc _
 have bL:ar w1 (w.heap.size+1) (kS w.heap.size).cells.toArray 30:=by rw[<-hW1];have h:=ar.new (w.alloc (.cells kX.cells.toArray 55)) (kS w.heap.size).cells.toArray 30;rw[World.size_alloc]at h;exact h
 obtain⟨sv,eQ⟩:=ae ((kS w.heap.size).cells.toArray);rw[eQ]at bL;have Ei:Hid (sv.size=9):=af (by rw[<-eQ];rfl);replace eQ:=af eQ;replace hT:=af hT;have CR:=af (Ln fR (kS w.heap.size) w1 (XC g1) (hT.ag hb1.out) TI (fun x hx=>by
  have TH:x=kX:=by simpa[kS]using hx
  subst TH;exact Pb) (fun _ x hx=>by
  have TH:x=kX:=by simpa[kS]using hx
  subst TH;exact Ma w1))
 rw[eQ.out]at CR;have is:(prog.info? 30).map (·.size)=some sv.size:=by rw[Ei];exact(by kernel_rfl:(prog.info? 30).map (·.size)=some 9)
 clear g1;go_enter func7,ntmps7;go_wp2_with (refine wL 30 rfl rfl bL underlying30 ?_ rfl rfl is)
 refine CR.mono ?_;rintro e w2 ⟨hb2,ho⟩;have rf:=af (hb1.trans (hb2.mono hb1.size));obtain⟨v,rfl,hv⟩:∃v,e=.returned (.tuple #[v,.int .i64 0])/\w2.ownsRow w1.heap.size 5 1 v 19 (bs kL):=by
  rcases ho with⟨-, -,v,h1,h2⟩ | ⟨-,h, -⟩ | ⟨h, -⟩
  ·rw[Mb]at h2;exact⟨v,h1,h2⟩
  ·rw[Mb]at h;exact absurd (by decide) h
  exact absurd (Mc _) h
 obtain⟨av,cv,rfl,hrow⟩:=ax.gK hv;have KM:=dX hrow;have hcv:=hrow.le;have TJ:=hrow.take 18 (by decide);rw[show(bs kL).take 18=bs (kL.take 18)from by unfold bs;rw[List.map_take]]at TJ;have CP:=af (fun(W:World)(hb:Below w2.heap.size w2 W)=>vG fR av 18 cv (kL.take 18) W (TJ.ag hb) (by decide) (hT.ag (rf.trans (hb.mono rf.size))) (fun s hs=>by rw[Md]at hs;cases hs) (fun s hs=>by rw[Md]at hs;cases hs) (fun h=>absurd h (by decide)));have CP0:=af (fun(W:World)(hb:Below w2.heap.size w2 W)=>vG fR none 0 0 [] W (ax.empty W) (by decide) (hT.ag (rf.trans (hb.mono rf.size))) (fun s hs=>by rw[Me]at hs;cases hs) (fun s hs=>by rw[Me]at hs;cases hs) (fun h=>absurd h (by decide)));have hP:Hid (∀W e W',A8 fR (kL.take 18) W e W'->e=.returned (.tuple #[.agg kR.cells.toArray,.int .i64 390])/\Below W.heap.size W W'):=af fun W e W' ⟨hb,ho⟩=>by
  rcases ho with⟨h, -⟩ | ⟨-, -,h⟩ | ⟨-,s,h, -⟩
  ·exact absurd h (by decide)
  ·exact⟨h,hb⟩
  rw[Md]at h;cases h
 have Aq:Hid (∀W e W',A8 fR [] W e W'->e=.returned (.tuple #[.agg kR.cells.toArray,.int .i64 390])/\Below W.heap.size W W'):=af fun W e W' ⟨hb,ho⟩=>by
  rcases ho with⟨h, -⟩ | ⟨-, -,h⟩ | ⟨-,s,h, -⟩
  ·exact absurd h (by decide)
  ·exact⟨h,hb⟩
  rw[Me]at h;cases h
 obtain⟨zc,dA⟩:=ae kR.cells.toArray;rw[dA]at hP Aq;have hzs:Hid (zc.size=9):=af (by rw[<-dA];rfl);have hzo:Hid (∀u∈zc.toList,u.oneCell'=true):=af (by rw[<-dA];simp[kR,lj.cells,Value.oneCell']);replace dA:=af dA;have hk:kL.toArray=#[0,1,0,1,0,1,0,1,0,1,0,0,0,2,0,0,5,0,0]:=rfl;rw[hk]at KM;clear hb2 ho hv hrow TJ hk;go_wp2_with fail;refine(CP w2 ai).mono ?_;rintro e w3 Vb;obtain⟨rfl,hb3⟩:=hP _ _ _ Vb;have Nt:=af hb3;have hs3:=af hb3.size;clear Vb hb3;go_upto_region 6 with(refine wS 30 9 rfl _ _ zc rfl rfl (ar.new _ _ _) hzs.out rfl hzo.out ?_;intro w4 hw4 hr4);have hb4:=af ((Nt.alloc hs3.out _).trans (hr4.ag (n₀:=w2.heap.size) (by have:=hs3.out;simp;omega) (by have:=hs3.out;simp;omega)));clear hw4 hr4;go_wp2_with fail;refine(CP0 w4 hb4.out).mono ?_;rintro e w5 Fl;obtain⟨rfl,eF⟩:=Aq _ _ _ Fl;have Nu:=af (hb4.trans (eF.mono hb4.size));clear Fl eF;go_wp2_with (refine wS 30 9 rfl _ _ zc rfl rfl (ar.new _ _ _) hzs.out rfl hzo.out ?_;intro w6 kh mL);have fj:=(Nu.alloc Nu.size _).trans (mL.ag (n₀:=w2.heap.size) (by have:=Nu.size;simp;omega) (by have:=Nu.size;simp;omega));go_ret;exact⟨rfl,rf.trans (fj.mono rf.size)⟩
structure ab7 (w:World)(e:Ending)(w':World):Prop where
 out:e=.returned (.bool true)/\Below w.heap.size w w'
end
end Go.Proofs.YtkghejaimhoboaaGreatDoor
