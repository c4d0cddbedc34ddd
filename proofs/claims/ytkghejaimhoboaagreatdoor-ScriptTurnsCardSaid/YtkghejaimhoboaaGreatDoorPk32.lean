/- Parts of the proof of ScriptTurns. -/
import Derived.Test.YtkghejaimhoboaaGreatDoorPk28
set_option linter.unusedSimpArgs false
set_option linter.unusedVariables false
set_option maxRecDepth 100000
set_option maxHeartbeats 8000000
namespace Go.Proofs.YtkghejaimhoboaaGreatDoor
open Go.RowKit Go.Shelf Go.Proofs.Tryz
section
attribute [local go_sem] Oper.semAt_some
def xM{α:Type}(tk:List UInt8->Option (α×List UInt8))(enc:α->Value)(B p:Nat)(l:List UInt8)(w:World)(e:Ending)(w':World):Prop:=
 (tk l=none/\e=.panicked mn/\ak [p] w w')\/∃x,tk l=some x/\e=.returned (enc x.1)/\Rd w' B p x.2/\ak [p] w w'
structure IZ {α:Type}(f:α->List Value)(T:TypeId)(size:Nat)(tk:List UInt8->Option (α×List UInt8))(B p:Nat)(l:List UInt8)(w:World)(e:Ending)(w':World):Prop where
 wrote:ak [p] w w'
 out:(cx tk l.length l=none/\e=.panicked mn)\/∃xs v,cx tk l.length l=some xs/\e=.returned v/\Rd w' B p []/\w'.ownsRow w.heap.size T size v xs.length (xs.flatMap f)
structure I0 {α:Type}(f:α->List Value)(T:TypeId)(size:Nat)(tk:List UInt8->Option (α×List UInt8))(B p:Nat)(l:List UInt8)(w:World)(xs:List α)(r:List UInt8)(v:Value)(W:World):Prop where
 al:Hj tk l xs r
 rd:Rd W B p r
 own:W.ownsRow (w.heap.size+1) T size v xs.length (xs.flatMap f)
 wrote:ak [p] w W
 box:ar W w.heap.size #[.pointer (some ⟨p,0,none⟩)] 161
theorem Tryz.ZV:fL prog 48 169 (.agg #[.string ⟨#[]⟩,.int .i64 0]) 2 24:=⟨underlying48,by kernel_rfl,rfl⟩
theorem Tryz.eSt:fL prog 50 9 (.string ⟨#[]⟩) 1 16:=⟨underlying50,by kernel_rfl,rfl⟩
theorem Ef(f:FuncId)(cap:Array Value)(tk:List UInt8->Option (Int×List UInt8))(hs:∀l x r,tk l=some (x,r)->r.length<l.length){w:World}{B p:Nat}{l:List UInt8}(h:Rd w B p l)(hL:l.length<=65536)(bl:List Nat)(hbl:∀b∈bl,b<w.heap.size/\b≠p)(hb:∀b∈bl,ar w b #[.pointer (some ⟨p,0,none⟩)] 161)(hf:gY f)
  (hc:∀W l1,Rd W B p l1->(∀b∈bl,ar W b #[.pointer (some ⟨p,0,none⟩)] 161)->Calls prog f cap W (xM tk qD B p l1 W)):
  Calls prog 148 #[.agg #[.pointer (some ⟨p,0,none⟩)],.func (.func f) #[] cap] w (IZ jD 3 1 tk B p l w):=by
 obtain⟨W0,hW0⟩:=ae (w.alloc (.cells #[.pointer (some ⟨p,0,none⟩)] 161));have hs0:W0.heap.size=w.heap.size+1:=by rw[<-hW0];simp
 have kF:=h.lt;have mH:=h.base;have b0:Below w.heap.size w W0:=by rw[<-hW0];exact ai.alloc ah _
 have LY:Hid (I0 jD 3 1 tk B p l w [] l (.slice none 0 0) W0):=af (by
  refine⟨Hj.start l,?_,World.ownsRow_nil _ _ _ _,?_,?_⟩
  ·exact h.ag b0
  ·rw[<-hW0];exact ak.alloc _ _ _
  rw[<-hW0];exact ar.new _ _ _)
 have CL:=af (fun(W:World)(l':List UInt8)(h:Rd W B p l')=>lu h);have hc:=af hc;have hs:=af hs;have hbl:=af hbl;have hb:=af hb;unfold gY at hf;clear h b0;go_enter func148,ntmps148;go_wp2_with fail
 go_loopw [5] (fun v wr=>∃(xs:List Int)(r:List UInt8)(av:Option Addr)(n cv:Nat),v=.slice av n cv/\Hid (n=xs.length)/\Hid (I0 jD 3 1 tk B p l w xs r (.slice av n cv) wr)) (fun _ wr=>iY (wr.cell? ⟨p,0,none⟩))
 case atStart=>exact⟨[],l,none,0,0,rfl,af rfl,LY⟩
 case round=>
  obtain⟨xs,r,av,n,cv,rfl,hn,hI⟩:=hrel;have kq:wr.cell? ⟨w.heap.size,0,none⟩=some (.pointer (some ⟨p,0,none⟩)):=hI.out.box.cell 0;have yR:=af (CL wr _ hI.out.rd);have hle:=hI.out.al.le;obtain⟨m,hm⟩:=ae r.length;rw[hm]at yR hle;rcases Nat.eq_zero_or_pos m with hz | zQ
  ·subst hz;have Nk:r=[]:=List.length_eq_zero_iff.1 hm;subst Nk;have H:=af (show IZ jD 3 1 tk B p l w (.returned (.slice av n cv)) wr from⟨hI.out.wrote,.inr ⟨xs,_,hI.out.al.ends,rfl,hI.out.rd,by have:=hI.out.own;rw[hn.out]at this ⊢;exact aT this (by omega)⟩⟩);clear hm hle;go_wp2_with fail;refine yR.mono ?_;rintro e w1 ⟨rfl,rfl⟩;go_wp2_with fail
   go_ret;exact H.out
  have hne:Hid (r≠[]):=af (fun e=>by rw[e]at hm;simp at hm;omega);have CC:=af (hc wr r hI.out.rd (fun b hb'=>(hb b hb').aw hI.out.wrote (by simpa using(hbl b hb').2)));have hs1:=hI.out.wrote.size;have hlt:=hI.out.box.lt;have vZ:n+1<=65537:=by rw[hn.out];omega
  clear hle hm;go_wp2_with fail;refine yR.mono ?_;rintro e w1 ⟨rfl,rfl⟩;go_wp2_with fail
  refine CC.mono ?_;rintro e w2 (⟨hno,rfl,hw2⟩ | ⟨y,hy,rfl,mC,hw2⟩)
  ·exact⟨rfl,hI.out.wrote.trans hw2,.inl ⟨hI.out.al.fails hne.out hno,rfl⟩⟩
  have rH:=af (hI.out.al.step hs.out hne.out hy);have u3:=af (hs _ y.1 y.2 hy);have DA:=af mC;have HO:=af hI.out.own;have tG:w2.ownsRow (w.heap.size+1) 3 1 (.slice av n cv) n (xs.flatMap jD):=by have h8:=hw2.row (by simp;omega) HO.out;rw[<-hn.out]at h8;exact h8
  have HW:=af (hI.out.wrote.trans hw2);have rf:=af (hI.out.box.aw hw2 (by simp;omega));have hs2:=hw2.size;have LZ:=af hI.out.rd.iY;unfold qD;(obtain⟨q,oF⟩:=ae y.1);rw[oF];replace oF:=af oF;clear hw2 mC hy CC;go_wp2_with (at_builtin;refine dt rfl _ _ rfl Tryz.ZN (w.heap.size+1) _ _ _ rfl tG (.int .i64 q) rfl rfl (by omega) (by omega) (by omega) ?_;intro v' w4 dI hg4);obtain⟨a4,c4,rfl⟩:=aA dI;have hv:∀y∈blk (.slice av n cv),w.heap.size+1<=y:=fun y hy=>(HO.lt y (bA.1 hy)).1;have hw4:ak (blk (.slice av n cv)) w2 w4:=ak.ep hg4 (fun q hq=>bA.2 hq);have xJ:=DA.wrote hw4 (fun y hy=>by have:=hv y hy;omega);refine⟨⟨xs++[y.1],y.2,a4,n+1,c4,rfl,af (by rw[hn.out];simp),af ⟨rH.out,xJ,?_,HW.fu hw4 (fun y hy=>by have:=hv y hy;omega),rf.aw hw4 (fun h=>by have:=hv _ h;omega)⟩⟩,?_⟩
  ·rw[List.length_append,List.flatMap_append,<-hn.out];simpa[jD,oF.out]using dI
  rw[xJ.iY,LZ.out];exact u3.out
theorem Eg(f:FuncId)(cap:Array Value)(tk:List UInt8->Option ((List UInt8)×List UInt8))(hs:∀l x r,tk l=some (x,r)->r.length<l.length){w:World}{B p:Nat}{l:List UInt8}(h:Rd w B p l)(hL:l.length<=65536)(bl:List Nat)(hbl:∀b∈bl,b<w.heap.size/\b≠p)(hb:∀b∈bl,ar w b #[.pointer (some ⟨p,0,none⟩)] 161)(hf:gY f)
  (hc:∀W l1,Rd W B p l1->(∀b∈bl,ar W b #[.pointer (some ⟨p,0,none⟩)] 161)->Calls prog f cap W (xM tk vh B p l1 W)):
  Calls prog 155 #[.agg #[.pointer (some ⟨p,0,none⟩)],.func (.func f) cap #[]] w (IZ uV 9 1 tk B p l w):=by
 obtain⟨W0,hW0⟩:=ae (w.alloc (.cells #[.pointer (some ⟨p,0,none⟩)] 161));have hs0:W0.heap.size=w.heap.size+1:=by rw[<-hW0];simp
 have kF:=h.lt;have mH:=h.base;have b0:Below w.heap.size w W0:=by rw[<-hW0];exact ai.alloc ah _
 have LY:Hid (I0 uV 9 1 tk B p l w [] l (.slice none 0 0) W0):=af (by
  refine⟨Hj.start l,?_,World.ownsRow_nil _ _ _ _,?_,?_⟩
  ·exact h.ag b0
  ·rw[<-hW0];exact ak.alloc _ _ _
  rw[<-hW0];exact ar.new _ _ _)
 have CL:=af (fun(W:World)(l':List UInt8)(h:Rd W B p l')=>lu h);have hc:=af hc;have hs:=af hs;have hbl:=af hbl;have hb:=af hb;unfold gY at hf;clear h b0;go_enter func155,ntmps155;go_wp2_with fail
 go_loopw [5] (fun v wr=>∃(xs:List (List UInt8))(r:List UInt8)(av:Option Addr)(n cv:Nat),v=.slice av n cv/\Hid (n=xs.length)/\Hid (I0 uV 9 1 tk B p l w xs r (.slice av n cv) wr)) (fun _ wr=>iY (wr.cell? ⟨p,0,none⟩))
 case atStart=>exact⟨[],l,none,0,0,rfl,af rfl,LY⟩
 case round=>
  obtain⟨xs,r,av,n,cv,rfl,hn,hI⟩:=hrel;have kq:wr.cell? ⟨w.heap.size,0,none⟩=some (.pointer (some ⟨p,0,none⟩)):=hI.out.box.cell 0;have yR:=af (CL wr _ hI.out.rd);have hle:=hI.out.al.le;obtain⟨m,hm⟩:=ae r.length;rw[hm]at yR hle;rcases Nat.eq_zero_or_pos m with hz | zQ
  ·subst hz;have Nk:r=[]:=List.length_eq_zero_iff.1 hm;subst Nk;have H:=af (show IZ uV 9 1 tk B p l w (.returned (.slice av n cv)) wr from⟨hI.out.wrote,.inr ⟨xs,_,hI.out.al.ends,rfl,hI.out.rd,by have:=hI.out.own;rw[hn.out]at this ⊢;exact aT this (by omega)⟩⟩);clear hm hle;go_wp2_with fail;refine yR.mono ?_;rintro e w1 ⟨rfl,rfl⟩;go_wp2_with fail
   go_ret;exact H.out
  have hne:Hid (r≠[]):=af (fun e=>by rw[e]at hm;simp at hm;omega);have CC:=af (hc wr r hI.out.rd (fun b hb'=>(hb b hb').aw hI.out.wrote (by simpa using(hbl b hb').2)));have hs1:=hI.out.wrote.size;have hlt:=hI.out.box.lt;have vZ:n+1<=65537:=by rw[hn.out];omega
  clear hle hm;go_wp2_with fail;refine yR.mono ?_;rintro e w1 ⟨rfl,rfl⟩;go_wp2_with fail
  refine CC.mono ?_;rintro e w2 (⟨hno,rfl,hw2⟩ | ⟨y,hy,rfl,mC,hw2⟩)
  ·exact⟨rfl,hI.out.wrote.trans hw2,.inl ⟨hI.out.al.fails hne.out hno,rfl⟩⟩
  have rH:=af (hI.out.al.step hs.out hne.out hy);have u3:=af (hs _ y.1 y.2 hy);have DA:=af mC;have HO:=af hI.out.own;have tG:w2.ownsRow (w.heap.size+1) 9 1 (.slice av n cv) n (xs.flatMap uV):=by have h8:=hw2.row (by simp;omega) HO.out;rw[<-hn.out]at h8;exact h8
  have HW:=af (hI.out.wrote.trans hw2);have rf:=af (hI.out.box.aw hw2 (by simp;omega));have hs2:=hw2.size;have LZ:=af hI.out.rd.iY;unfold vh;(obtain⟨q,oF⟩:=ae ((⟨y.1.toArray⟩:ByteArray):ByteArray));rw[oF];replace oF:=af oF;clear hw2 mC hy CC;go_wp2_with (at_builtin;refine dt rfl _ _ rfl Tryz.eSt (w.heap.size+1) _ _ _ rfl tG (.string q) rfl rfl (by omega) (by omega) (by omega) ?_;intro v' w4 dI hg4);obtain⟨a4,c4,rfl⟩:=aA dI;have hv:∀y∈blk (.slice av n cv),w.heap.size+1<=y:=fun y hy=>(HO.lt y (bA.1 hy)).1;have hw4:ak (blk (.slice av n cv)) w2 w4:=ak.ep hg4 (fun q hq=>bA.2 hq);have xJ:=DA.wrote hw4 (fun y hy=>by have:=hv y hy;omega);refine⟨⟨xs++[y.1],y.2,a4,n+1,c4,rfl,af (by rw[hn.out];simp),af ⟨rH.out,xJ,?_,HW.fu hw4 (fun y hy=>by have:=hv y hy;omega),rf.aw hw4 (fun h=>by have:=hv _ h;omega)⟩⟩,?_⟩
  ·rw[List.length_append,List.flatMap_append,<-hn.out];simpa[uV,oF.out]using dI
  rw[xJ.iY,LZ.out];exact u3.out
theorem A7(f:FuncId)(cap:Array Value)(tk:List UInt8->Option (bM×List UInt8))(hs:∀l x r,tk l=some (x,r)->r.length<l.length){w:World}{B p:Nat}{l:List UInt8}(h:Rd w B p l)(hL:l.length<=65536)(bl:List Nat)(hbl:∀b∈bl,b<w.heap.size/\b≠p)(hb:∀b∈bl,ar w b #[.pointer (some ⟨p,0,none⟩)] 161)(hf:gY f)
  (hc:∀W l1,Rd W B p l1->(∀b∈bl,ar W b #[.pointer (some ⟨p,0,none⟩)] 161)->Calls prog f cap W (xM tk vP B p l1 W)):
  Calls prog 139 #[.agg #[.pointer (some ⟨p,0,none⟩)],.func (.func f) #[] cap] w (IZ bM.cl 169 2 tk B p l w):=by
 obtain⟨W0,hW0⟩:=ae (w.alloc (.cells #[.pointer (some ⟨p,0,none⟩)] 161));have hs0:W0.heap.size=w.heap.size+1:=by rw[<-hW0];simp
 have kF:=h.lt;have mH:=h.base;have b0:Below w.heap.size w W0:=by rw[<-hW0];exact ai.alloc ah _
 have LY:Hid (I0 bM.cl 169 2 tk B p l w [] l (.slice none 0 0) W0):=af (by
  refine⟨Hj.start l,?_,World.ownsRow_nil _ _ _ _,?_,?_⟩
  ·exact h.ag b0
  ·rw[<-hW0];exact ak.alloc _ _ _
  rw[<-hW0];exact ar.new _ _ _)
 have CL:=af (fun(W:World)(l':List UInt8)(h:Rd W B p l')=>lu h);have hc:=af hc;have hs:=af hs;have hbl:=af hbl;have hb:=af hb;unfold gY at hf;clear h b0;go_enter func139,ntmps139;go_wp2_with fail
 go_loopw [5] (fun v wr=>∃(xs:List bM)(r:List UInt8)(av:Option Addr)(n cv:Nat),v=.slice av n cv/\Hid (n=xs.length)/\Hid (I0 bM.cl 169 2 tk B p l w xs r (.slice av n cv) wr)) (fun _ wr=>iY (wr.cell? ⟨p,0,none⟩))
 case atStart=>exact⟨[],l,none,0,0,rfl,af rfl,LY⟩
 case round=>
  obtain⟨xs,r,av,n,cv,rfl,hn,hI⟩:=hrel;have kq:wr.cell? ⟨w.heap.size,0,none⟩=some (.pointer (some ⟨p,0,none⟩)):=hI.out.box.cell 0;have yR:=af (CL wr _ hI.out.rd);have hle:=hI.out.al.le;obtain⟨m,hm⟩:=ae r.length;rw[hm]at yR hle;rcases Nat.eq_zero_or_pos m with hz | zQ
  ·subst hz;have Nk:r=[]:=List.length_eq_zero_iff.1 hm;subst Nk;have H:=af (show IZ bM.cl 169 2 tk B p l w (.returned (.slice av n cv)) wr from⟨hI.out.wrote,.inr ⟨xs,_,hI.out.al.ends,rfl,hI.out.rd,by have:=hI.out.own;rw[hn.out]at this ⊢;exact aT this (by omega)⟩⟩);clear hm hle;go_wp2_with fail;refine yR.mono ?_;rintro e w1 ⟨rfl,rfl⟩;go_wp2_with fail
   go_ret;exact H.out
  have hne:Hid (r≠[]):=af (fun e=>by rw[e]at hm;simp at hm;omega);have CC:=af (hc wr r hI.out.rd (fun b hb'=>(hb b hb').aw hI.out.wrote (by simpa using(hbl b hb').2)));have hs1:=hI.out.wrote.size;have hlt:=hI.out.box.lt;have vZ:n+1<=65537:=by rw[hn.out];omega
  clear hle hm;go_wp2_with fail;refine yR.mono ?_;rintro e w1 ⟨rfl,rfl⟩;go_wp2_with fail
  refine CC.mono ?_;rintro e w2 (⟨hno,rfl,hw2⟩ | ⟨y,hy,rfl,mC,hw2⟩)
  ·exact⟨rfl,hI.out.wrote.trans hw2,.inl ⟨hI.out.al.fails hne.out hno,rfl⟩⟩
  have rH:=af (hI.out.al.step hs.out hne.out hy);have u3:=af (hs _ y.1 y.2 hy);have DA:=af mC;have HO:=af hI.out.own;have tG:w2.ownsRow (w.heap.size+1) 169 2 (.slice av n cv) n (xs.flatMap bM.cl):=by have h8:=hw2.row (by simp;omega) HO.out;rw[<-hn.out]at h8;exact h8
  have HW:=af (hI.out.wrote.trans hw2);have rf:=af (hI.out.box.aw hw2 (by simp;omega));have hs2:=hw2.size;have LZ:=af hI.out.rd.iY;(obtain⟨qc,Vh⟩:=ae y.1.cl);have QU:=af (show qc.length=2 by rw[<-Vh];rfl);have hqo:=af (show∀u∈qc,u.oneCell'=true by rw[<-Vh];simp[bM.cl,Value.oneCell']);rw[show vP y.1=.agg y.1.cl.toArray from rfl,Vh];replace Vh:=af Vh;clear hw2 mC hy CC;go_wp2_with (first | (refine wpList_plain rfl fun _ hK=>dF _ rfl Tryz.ZV (by decide) (by decide) (.agg qc.toArray) rfl (by rw[show(Value.agg qc.toArray).cells=qc.toArray from rfl,List.size_toArray,QU.out]) (hK _ _ ?_)) | (at_builtin;refine jM rfl _ _ rfl Tryz.ZV (by decide) (w.heap.size+1) (.slice av n cv) n (xs.flatMap bM.cl) rfl (tG.alloc _) w2.heap.size qc 169 rfl (ar.new w2 qc.toArray 169) QU.out hqo.out (by omega) (by omega) (by simp;omega) ?_;intro v' w4 dI hg4 Qo));obtain⟨a4,c4,rfl⟩:=aA dI;have hv:∀y∈blk (.slice av n cv),w.heap.size+1<=y:=fun y hy=>(HO.lt y (bA.1 hy)).1;have hw4:ak (blk (.slice av n cv)) w2 w4:=(ak.alloc _ w2 (.cells qc.toArray 169)).trans (ak.ep hg4 (fun q hq=>bA.2 hq));have xJ:=DA.wrote hw4 (fun y hy=>by have:=hv y hy;omega);refine⟨⟨xs++[y.1],y.2,a4,n+1,c4,rfl,af (by rw[hn.out];simp),af ⟨rH.out,xJ,?_,HW.fu hw4 (fun y hy=>by have:=hv y hy;omega),rf.aw hw4 (fun h=>by have:=hv _ h;omega)⟩⟩,?_⟩
  ·rw[List.length_append,List.flatMap_append,<-hn.out];simpa[Vh.out]using dI
  rw[xJ.iY,LZ.out];exact u3.out
end
end Go.Proofs.YtkghejaimhoboaaGreatDoor
