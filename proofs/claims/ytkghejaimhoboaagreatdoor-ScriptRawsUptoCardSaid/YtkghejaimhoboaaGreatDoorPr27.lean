/- Parts of the proof of ScriptRaws. -/
import Derived.Test.YtkghejaimhoboaaGreatDoorPr21
set_option linter.unusedSimpArgs false
set_option linter.unusedVariables false
set_option maxRecDepth 100000
set_option maxHeartbeats 8000000
namespace Go.Proofs.YtkghejaimhoboaaGreatDoor
open Go.RowKit Go.Shelf Go.Proofs.Tryz
section
attribute [local go_sem] Oper.semAt_some
def stopP:Value:=.iface 157 (.agg #[])
def givenP:List PanicEntry:=[{v:=stopP,recovered:=false}]
theorem pk_must(b:Bool)(w:World):Calls prog 95 #[.bool b] w fun e w'=>e=(if b then .returned (.tuple #[])else .panicked givenP)/\w=w':=by
 cases b with
 |true=>
  go_enter func95,ntmps95;go_wp2
  go_end0
  exact⟨rfl,rfl⟩
 |false=>go_enter func95,ntmps95;go_wp2;exact⟨rfl,rfl,rfl⟩
theorem pk_number{w:World}{B p:Nat}{l:List UInt8}(h:Rd w B p l)(k:Nat)(hk1:1<=k)(hk:k<=2):
  Calls prog 129 #[.agg #[.pointer (some ⟨p,0,none⟩)],.int .i64 k] w fun e w'=>(rNum k l=none/\e=.panicked givenP/\Wrote [p] w w')\/∃x,rNum k l=some x/\e=.returned (.int .i64 x.1)/\Rd w' B p x.2/\Wrote [p] w w':=by
 have hb0:Below w.heap.size w (w.alloc (.cells #[.pointer (some ⟨p,0,none⟩)] 161)):=bel_refl.alloc nat_le_rfl _;have CR:=hid (wire_rNumber (h.below hb0) k hk1 hk);have CM:=hid pk_must;have W0:Wrote [p] w (w.alloc (.cells #[.pointer (some ⟨p,0,none⟩)] 161)):=Wrote.alloc _ _ _;have W0:=hid W0;rcases rNum_cases k l with⟨hlt,hn⟩ | ⟨hle,hn⟩
 ·have HN:=hid hn;go_enter func129,ntmps129;go_wp2_with fail
  refine CR.mono ?_;rintro e w1 (⟨_,rfl,hb1⟩ | ⟨hle,rfl,hR1,hw1⟩)
  ·have HB:=hid hb1;clear hb1 hlt;go_wp2_with (go_at_call 95;refine(CM _ _).mono ?_;rintro e w2 ⟨rfl,rfl⟩);exact⟨rfl,.inl ⟨HN.out,rfl,W0.trans (Wrote.of_below HB.out)⟩⟩
  omega
 have HN:=hid hn;have hbl:beN (l.take k)<65536:=by
  have h1:=beN_lt (l.take k);have h2:(l.take k).length<=2:=by simp;omega
  have h3:256^(l.take k).length<=256^2:=Nat.pow_le_pow_right (by decide) h2;omega
 obtain⟨m,hm⟩:=gen_of (beN (l.take k));rw[hm]at CR hbl HN;obtain⟨z,hz⟩:∃z:Int,z=(m:Int):=⟨_,rfl⟩;rw[<-hz]at CR;have hz1:0<=z:=by omega
 have hz2:z<65536:=by omega
 have HZ:=hid hz;clear hm hz hn hbl;go_enter func129,ntmps129;go_wp2_with fail
 refine CR.mono ?_;rintro e w1 (⟨hlt,rfl,hb1⟩ | ⟨_,rfl,hR1,hw1⟩)
 ·omega
 have HR:=hid hR1;have HW:=hid hw1;clear hR1 hw1 hle;go_wp2_with (go_at_call 95;refine(CM _ _).mono ?_;rintro e w2 ⟨rfl,rfl⟩);go_ret;exact .inr ⟨_,HN.out,by rw[HZ.out];rfl,HR.out,W0.trans HW.out⟩
theorem pk_text{w:World}{B p:Nat}{l:List UInt8}(h:Rd w B p l):
  Calls prog 141 #[.agg #[.pointer (some ⟨p,0,none⟩)]] w fun e w'=>(rTxt l=none/\e=.panicked givenP/\Wrote [p] w w')\/∃x,rTxt l=some x/\e=.returned (.string ⟨x.1.toArray⟩)/\Rd w' B p x.2/\Wrote [p] w w':=by
 have hb0:Below w.heap.size w (w.alloc (.cells #[.pointer (some ⟨p,0,none⟩)] 161)):=bel_refl.alloc nat_le_rfl _;have CR:=hid (wire_rText (h.below hb0));have CM:=hid pk_must;have W0:Wrote [p] w (w.alloc (.cells #[.pointer (some ⟨p,0,none⟩)] 161)):=Wrote.alloc _ _ _;have W0:=hid W0;go_enter func141,ntmps141;go_wp2_with fail
 refine CR.mono ?_;rintro e w1 (⟨hn,rfl,hR1,hw1⟩ | ⟨⟨s,r⟩,hn,rfl,hR1,hw1⟩)
 ·have HN:=hid hn;have HW:=hid hw1;clear hw1 hn;go_wp2_with (go_at_call 95;refine(CM _ _).mono ?_;rintro e w2 ⟨rfl,rfl⟩);exact⟨rfl,.inl ⟨HN.out,rfl,W0.trans HW.out⟩⟩
 have HN:=hid hn;have HW:=hid hw1;have HR:=hid hR1;clear hw1 hn hR1;dsimp only at HR;go_wp2_with (go_at_call 95;refine(CM _ _).mono ?_;rintro e w2 ⟨rfl,rfl⟩)
 go_ret;exact .inr ⟨_,HN.out,rfl,HR.out,W0.trans HW.out⟩
theorem Tryz.eB8:ElemT prog 22 5 (.int .u8 0) 1 1:=⟨underlying22,by kernel_rfl,rfl⟩
structure ReI (B p:Nat)(l:List UInt8)(w:World)(j:Nat)(v:Value)(W:World):Prop where
 rd:Rd W B p (l.drop j)
 own:W.ownsRow (w.heap.size+1) 5 1 v j (bs (l.take j))
 wrote:Wrote [p] w W
 box:Blk W w.heap.size #[.pointer (some ⟨p,0,none⟩)] 161
 le:j<=l.length
theorem pk_rest{w:World}{B p:Nat}{l:List UInt8}(h:Rd w B p l):Calls prog 210 #[.agg #[.pointer (some ⟨p,0,none⟩)]] w fun e w'=>e=.returned (.string ⟨l.toArray⟩)/\Rd w' B p []/\Wrote [p] w w':=by
 obtain⟨W0,hW0⟩:=gen_of (w.alloc (.cells #[.pointer (some ⟨p,0,none⟩)] 161));have hs0:W0.heap.size=w.heap.size+1:=by rw[<-hW0];simp
 have hpb:=h.lt;have hbw:=h.base;have hll:=h.len;have HI0:Hid (ReI B p l w 0 (.slice none 0 0) W0):=hid (by
  refine⟨?_,World.ownsRow_nil _ _ _ _,?_,?_,Nat.zero_le _⟩
  ·rw[<-hW0];exact h.below (bel_refl.alloc nat_le_rfl _)
  ·rw[<-hW0];exact Wrote.alloc _ _ _
  rw[<-hW0];exact Blk.new _ _ _)
 have CL:=hid (fun(W:World)(l':List UInt8)(h:Rd W B p l')=>wire_Left h);have CN:=hid (fun(W:World)(l':List UInt8)(h:Rd W B p l')=>pk_number h 1 (by decide) (by decide));clear h;go_enter func210,ntmps210;go_wp2_with fail
 go_loopw [3] (fun v wr=>∃(j:Nat)(av:Option Addr)(cv:Nat),v=.slice av j cv/\Hid (ReI B p l w j (.slice av j cv) wr)) (fun _ wr=>rdLen (wr.cell? ⟨p,0,none⟩))
 case atStart=>exact⟨0,none,0,rfl,HI0⟩
 case round=>
  obtain⟨j,av,cv,rfl,hI⟩:=hrel;have kq:wr.cell? ⟨w.heap.size,0,none⟩=some (.pointer (some ⟨p,0,none⟩)):=hI.out.box.cell 0;have CLJ:=hid (CL wr _ hI.out.rd);have hdl:(l.drop j).length=l.length-j:=List.length_drop;have hjl:=hI.out.le;obtain⟨m,hm⟩:=gen_of ((l.drop j).length);rw[hm]at CLJ hdl;rcases Nat.eq_zero_or_pos m with hz | hpos
  ·subst hz;have hje:Hid (j=l.length):=hid (by omega);have hrow:=RowAt.of_own hI.out.own;obtain⟨a2,c2,e2,hrow⟩:=hrow;cases e2;have hstr:=run_str hrow;rw[show l.take j=l by rw[hje,List.take_length]]at hstr;have H:=hid (show Rd wr B p []/\Wrote [p] w wr from⟨by have:=hI.out.rd;rwa [List.drop_eq_nil_of_le (by rw[hje];exact Nat.le_refl _)]at this,hI.out.wrote⟩);clear hrow hdl hm;go_wp2_with fail;refine CLJ.mono ?_;rintro e w1 ⟨rfl,rfl⟩;go_wp2_with fail
   go_ret;exact⟨rfl,H.out⟩
  have hjl:j<l.length:=by omega
  obtain⟨x,hx⟩:∃x,l[j]?=some x:=⟨_,List.getElem?_eq_getElem hjl⟩;have hdr:l.drop j=x::l.drop (j+1):=by rw[List.drop_eq_getElem_cons hjl];rw[List.getElem?_eq_getElem hjl]at hx;cases hx;rfl
  have htk:Hid (bs (l.take (j+1))=bs (l.take j)++[.int .u8 ((x.toNat:Nat):Int)]):=hid (by rw[List.take_add_one,hx];simp[bs])
  have hnum:rNum 1 (l.drop j)=some (x.toNat,l.drop (j+1)):=by unfold rNum;rw[hdr];simp[beN]
  have CNJ:=hid (CN wr _ hI.out.rd);rw[hnum]at CNJ;obtain⟨z,hz⟩:=gen_of (((x.toNat:Nat):Int):Int);have hz0:0<=z:=by omega
  have hz1:z<256:=by have:=x.toNat_lt;omega
  rw[hz]at htk;have hjm:j+1<=70368744177664:=by omega
  have hs1:=hI.out.wrote.size;have hlt:=hI.out.box.lt;replace hz:=hid hz;have HJ:=hid hjl;clear hdl hm hx hdr hnum hjl;go_wp2_with fail;refine CLJ.mono ?_;rintro e w1 ⟨rfl,rfl⟩;go_wp2_with fail
  refine CNJ.mono ?_;rintro e w2 (⟨hno,rfl,hw2⟩ | ⟨y,hy,rfl,hR2,hw2⟩)
  ·cases hno
  cases hy;dsimp only at hR2 ⊢;rw[hz.out];have HR2:=hid hR2;have HO:=hid hI.out.own;have ho2:w2.ownsRow (w.heap.size+1) 5 1 (.slice av j cv) j (bs (l.take j)):=hw2.row (by simp;omega) HO.out;have HW:=hid (hI.out.wrote.trans hw2);have HB2:=hid (hI.out.box.keepW hw2 (by simp;omega));have hs2:=hw2.size;clear hw2 hR2;go_wp2_with (at_builtin;refine append_one rfl _ _ rfl Tryz.eB8 (w.heap.size+1) _ _ _ rfl ho2 (.int .u8 z) rfl rfl (by omega) (by omega) (by omega) ?_;intro v' w4 how4 hg4);obtain⟨a4,c4,rfl⟩:=own_slice how4;have hv:∀y∈blk (.slice av j cv),w.heap.size+1<=y:=fun y hy=>(HO.lt y (mem_blk.1 hy)).1;have hw4:Wrote (blk (.slice av j cv)) w2 w4:=Wrote.of_grown hg4 (fun q hq=>mem_blk.2 hq);have hR4:=HR2.wrote hw4 (fun y hy=>by have:=hv y hy;omega);refine⟨⟨j+1,a4,c4,rfl,hid ⟨hR4,by rw[htk];exact how4,HW.andNew hw4 (fun y hy=>by have:=hv y hy;omega),HB2.keepW hw4 (fun h=>by have:=hv _ h;omega),HJ.out⟩⟩,?_⟩;rw[hR4.rdLen,hI.out.rd.rdLen,List.length_drop,List.length_drop];have:=HJ.out;omega
def TakeP{α:Type}(tk:List UInt8->Option (α×List UInt8))(enc:α->Value)(B p:Nat)(l:List UInt8)(w:World)(e:Ending)(w':World):Prop:=
 (tk l=none/\e=.panicked givenP/\Wrote [p] w w')\/∃x,tk l=some x/\e=.returned (enc x.1)/\Rd w' B p x.2/\Wrote [p] w w'
structure AllR {α:Type}(f:α->List Value)(T:TypeId)(size:Nat)(tk:List UInt8->Option (α×List UInt8))(B p:Nat)(l:List UInt8)(w:World)(e:Ending)(w':World):Prop where
 wrote:Wrote [p] w w'
 out:(rAll tk l.length l=none/\e=.panicked givenP)\/∃xs v,rAll tk l.length l=some xs/\e=.returned v/\Rd w' B p []/\w'.ownsRow w.heap.size T size v xs.length (xs.flatMap f)
structure AllI {α:Type}(f:α->List Value)(T:TypeId)(size:Nat)(tk:List UInt8->Option (α×List UInt8))(B p:Nat)(l:List UInt8)(w:World)(xs:List α)(r:List UInt8)(v:Value)(W:World):Prop where
 al:AlS tk l xs r
 rd:Rd W B p r
 own:W.ownsRow (w.heap.size+1) T size v xs.length (xs.flatMap f)
 wrote:Wrote [p] w W
 box:Blk W w.heap.size #[.pointer (some ⟨p,0,none⟩)] 161
theorem Tryz.eWa:ElemT prog 48 169 (.agg #[.string ⟨#[]⟩,.int .i64 0]) 2 24:=⟨underlying48,by kernel_rfl,rfl⟩
theorem Tryz.eSt:ElemT prog 50 9 (.string ⟨#[]⟩) 1 16:=⟨underlying50,by kernel_rfl,rfl⟩
theorem pk_all_int(f:FuncId)(cap:Array Value)(tk:List UInt8->Option (Int×List UInt8))(hs:∀l x r,tk l=some (x,r)->r.length<l.length){w:World}{B p:Nat}{l:List UInt8}(h:Rd w B p l)(hL:l.length<=65536)(bl:List Nat)(hbl:∀b∈bl,b<w.heap.size/\b≠p)(hb:∀b∈bl,Blk w b #[.pointer (some ⟨p,0,none⟩)] 161)(hf:fnC f)
  (hc:∀W l1,Rd W B p l1->(∀b∈bl,Blk W b #[.pointer (some ⟨p,0,none⟩)] 161)->Calls prog f cap W (TakeP tk iVl B p l1 W)):
  Calls prog 148 #[.agg #[.pointer (some ⟨p,0,none⟩)],.func (.func f) #[] cap] w (AllR iCl 3 1 tk B p l w):=by
 obtain⟨W0,hW0⟩:=gen_of (w.alloc (.cells #[.pointer (some ⟨p,0,none⟩)] 161));have hs0:W0.heap.size=w.heap.size+1:=by rw[<-hW0];simp
 have hpb:=h.lt;have hbw:=h.base;have b0:Below w.heap.size w W0:=by rw[<-hW0];exact bel_refl.alloc nat_le_rfl _
 have HI0:Hid (AllI iCl 3 1 tk B p l w [] l (.slice none 0 0) W0):=hid (by
  refine⟨AlS.start l,?_,World.ownsRow_nil _ _ _ _,?_,?_⟩
  ·exact h.below b0
  ·rw[<-hW0];exact Wrote.alloc _ _ _
  rw[<-hW0];exact Blk.new _ _ _)
 have CL:=hid (fun(W:World)(l':List UInt8)(h:Rd W B p l')=>wire_Left h);have hc:=hid hc;have hs:=hid hs;have hbl:=hid hbl;have hb:=hid hb;unfold fnC at hf;clear h b0;go_enter func148,ntmps148;go_wp2_with fail
 go_loopw [5] (fun v wr=>∃(xs:List Int)(r:List UInt8)(av:Option Addr)(n cv:Nat),v=.slice av n cv/\Hid (n=xs.length)/\Hid (AllI iCl 3 1 tk B p l w xs r (.slice av n cv) wr)) (fun _ wr=>rdLen (wr.cell? ⟨p,0,none⟩))
 case atStart=>exact⟨[],l,none,0,0,rfl,hid rfl,HI0⟩
 case round=>
  obtain⟨xs,r,av,n,cv,rfl,hn,hI⟩:=hrel;have kq:wr.cell? ⟨w.heap.size,0,none⟩=some (.pointer (some ⟨p,0,none⟩)):=hI.out.box.cell 0;have CLJ:=hid (CL wr _ hI.out.rd);have hle:=hI.out.al.le;obtain⟨m,hm⟩:=gen_of r.length;rw[hm]at CLJ hle;rcases Nat.eq_zero_or_pos m with hz | hpos
  ·subst hz;have hr0:r=[]:=List.length_eq_zero_iff.1 hm;subst hr0;have H:=hid (show AllR iCl 3 1 tk B p l w (.returned (.slice av n cv)) wr from⟨hI.out.wrote,.inr ⟨xs,_,hI.out.al.ends,rfl,hI.out.rd,by have:=hI.out.own;rw[hn.out]at this ⊢;exact ownsRow_mono this (by omega)⟩⟩);clear hm hle;go_wp2_with fail;refine CLJ.mono ?_;rintro e w1 ⟨rfl,rfl⟩;go_wp2_with fail
   go_ret;exact H.out
  have hne:Hid (r≠[]):=hid (fun e=>by rw[e]at hm;simp at hm;omega);have CC:=hid (hc wr r hI.out.rd (fun b hb'=>(hb b hb').keepW hI.out.wrote (by simpa using(hbl b hb').2)));have hs1:=hI.out.wrote.size;have hlt:=hI.out.box.lt;have hnm:n+1<=65537:=by rw[hn.out];omega
  clear hle hm;go_wp2_with fail;refine CLJ.mono ?_;rintro e w1 ⟨rfl,rfl⟩;go_wp2_with fail
  refine CC.mono ?_;rintro e w2 (⟨hno,rfl,hw2⟩ | ⟨y,hy,rfl,hR2,hw2⟩)
  ·exact⟨rfl,hI.out.wrote.trans hw2,.inl ⟨hI.out.al.fails hne.out hno,rfl⟩⟩
  have hal:=hid (hI.out.al.step hs.out hne.out hy);have hlt2:=hid (hs _ y.1 y.2 hy);have HR2:=hid hR2;have HO:=hid hI.out.own;have ho2:w2.ownsRow (w.heap.size+1) 3 1 (.slice av n cv) n (xs.flatMap iCl):=by have h8:=hw2.row (by simp;omega) HO.out;rw[<-hn.out]at h8;exact h8
  have HW:=hid (hI.out.wrote.trans hw2);have HB2:=hid (hI.out.box.keepW hw2 (by simp;omega));have hs2:=hw2.size;have hrd1:=hid hI.out.rd.rdLen;unfold iVl;(obtain⟨q,hq0⟩:=gen_of y.1);rw[hq0];replace hq0:=hid hq0;clear hw2 hR2 hy CC;go_wp2_with (at_builtin;refine append_one rfl _ _ rfl Tryz.eIn (w.heap.size+1) _ _ _ rfl ho2 (.int .i64 q) rfl rfl (by omega) (by omega) (by omega) ?_;intro v' w4 how4 hg4);obtain⟨a4,c4,rfl⟩:=own_slice how4;have hv:∀y∈blk (.slice av n cv),w.heap.size+1<=y:=fun y hy=>(HO.lt y (mem_blk.1 hy)).1;have hw4:Wrote (blk (.slice av n cv)) w2 w4:=Wrote.of_grown hg4 (fun q hq=>mem_blk.2 hq);have hR4:=HR2.wrote hw4 (fun y hy=>by have:=hv y hy;omega);refine⟨⟨xs++[y.1],y.2,a4,n+1,c4,rfl,hid (by rw[hn.out];simp),hid ⟨hal.out,hR4,?_,HW.andNew hw4 (fun y hy=>by have:=hv y hy;omega),HB2.keepW hw4 (fun h=>by have:=hv _ h;omega)⟩⟩,?_⟩
  ·rw[List.length_append,List.flatMap_append,<-hn.out];simpa[iCl,hq0.out]using how4
  rw[hR4.rdLen,hrd1.out];exact hlt2.out
theorem pk_all_str(f:FuncId)(cap:Array Value)(tk:List UInt8->Option ((List UInt8)×List UInt8))(hs:∀l x r,tk l=some (x,r)->r.length<l.length){w:World}{B p:Nat}{l:List UInt8}(h:Rd w B p l)(hL:l.length<=65536)(bl:List Nat)(hbl:∀b∈bl,b<w.heap.size/\b≠p)(hb:∀b∈bl,Blk w b #[.pointer (some ⟨p,0,none⟩)] 161)(hf:fnC f)
  (hc:∀W l1,Rd W B p l1->(∀b∈bl,Blk W b #[.pointer (some ⟨p,0,none⟩)] 161)->Calls prog f cap W (TakeP tk sVl B p l1 W)):
  Calls prog 155 #[.agg #[.pointer (some ⟨p,0,none⟩)],.func (.func f) cap #[]] w (AllR sCl 9 1 tk B p l w):=by
 obtain⟨W0,hW0⟩:=gen_of (w.alloc (.cells #[.pointer (some ⟨p,0,none⟩)] 161));have hs0:W0.heap.size=w.heap.size+1:=by rw[<-hW0];simp
 have hpb:=h.lt;have hbw:=h.base;have b0:Below w.heap.size w W0:=by rw[<-hW0];exact bel_refl.alloc nat_le_rfl _
 have HI0:Hid (AllI sCl 9 1 tk B p l w [] l (.slice none 0 0) W0):=hid (by
  refine⟨AlS.start l,?_,World.ownsRow_nil _ _ _ _,?_,?_⟩
  ·exact h.below b0
  ·rw[<-hW0];exact Wrote.alloc _ _ _
  rw[<-hW0];exact Blk.new _ _ _)
 have CL:=hid (fun(W:World)(l':List UInt8)(h:Rd W B p l')=>wire_Left h);have hc:=hid hc;have hs:=hid hs;have hbl:=hid hbl;have hb:=hid hb;unfold fnC at hf;clear h b0;go_enter func155,ntmps155;go_wp2_with fail
 go_loopw [5] (fun v wr=>∃(xs:List (List UInt8))(r:List UInt8)(av:Option Addr)(n cv:Nat),v=.slice av n cv/\Hid (n=xs.length)/\Hid (AllI sCl 9 1 tk B p l w xs r (.slice av n cv) wr)) (fun _ wr=>rdLen (wr.cell? ⟨p,0,none⟩))
 case atStart=>exact⟨[],l,none,0,0,rfl,hid rfl,HI0⟩
 case round=>
  obtain⟨xs,r,av,n,cv,rfl,hn,hI⟩:=hrel;have kq:wr.cell? ⟨w.heap.size,0,none⟩=some (.pointer (some ⟨p,0,none⟩)):=hI.out.box.cell 0;have CLJ:=hid (CL wr _ hI.out.rd);have hle:=hI.out.al.le;obtain⟨m,hm⟩:=gen_of r.length;rw[hm]at CLJ hle;rcases Nat.eq_zero_or_pos m with hz | hpos
  ·subst hz;have hr0:r=[]:=List.length_eq_zero_iff.1 hm;subst hr0;have H:=hid (show AllR sCl 9 1 tk B p l w (.returned (.slice av n cv)) wr from⟨hI.out.wrote,.inr ⟨xs,_,hI.out.al.ends,rfl,hI.out.rd,by have:=hI.out.own;rw[hn.out]at this ⊢;exact ownsRow_mono this (by omega)⟩⟩);clear hm hle;go_wp2_with fail;refine CLJ.mono ?_;rintro e w1 ⟨rfl,rfl⟩;go_wp2_with fail
   go_ret;exact H.out
  have hne:Hid (r≠[]):=hid (fun e=>by rw[e]at hm;simp at hm;omega);have CC:=hid (hc wr r hI.out.rd (fun b hb'=>(hb b hb').keepW hI.out.wrote (by simpa using(hbl b hb').2)));have hs1:=hI.out.wrote.size;have hlt:=hI.out.box.lt;have hnm:n+1<=65537:=by rw[hn.out];omega
  clear hle hm;go_wp2_with fail;refine CLJ.mono ?_;rintro e w1 ⟨rfl,rfl⟩;go_wp2_with fail
  refine CC.mono ?_;rintro e w2 (⟨hno,rfl,hw2⟩ | ⟨y,hy,rfl,hR2,hw2⟩)
  ·exact⟨rfl,hI.out.wrote.trans hw2,.inl ⟨hI.out.al.fails hne.out hno,rfl⟩⟩
  have hal:=hid (hI.out.al.step hs.out hne.out hy);have hlt2:=hid (hs _ y.1 y.2 hy);have HR2:=hid hR2;have HO:=hid hI.out.own;have ho2:w2.ownsRow (w.heap.size+1) 9 1 (.slice av n cv) n (xs.flatMap sCl):=by have h8:=hw2.row (by simp;omega) HO.out;rw[<-hn.out]at h8;exact h8
  have HW:=hid (hI.out.wrote.trans hw2);have HB2:=hid (hI.out.box.keepW hw2 (by simp;omega));have hs2:=hw2.size;have hrd1:=hid hI.out.rd.rdLen;unfold sVl;(obtain⟨q,hq0⟩:=gen_of ((⟨y.1.toArray⟩:ByteArray):ByteArray));rw[hq0];replace hq0:=hid hq0;clear hw2 hR2 hy CC;go_wp2_with (at_builtin;refine append_one rfl _ _ rfl Tryz.eSt (w.heap.size+1) _ _ _ rfl ho2 (.string q) rfl rfl (by omega) (by omega) (by omega) ?_;intro v' w4 how4 hg4);obtain⟨a4,c4,rfl⟩:=own_slice how4;have hv:∀y∈blk (.slice av n cv),w.heap.size+1<=y:=fun y hy=>(HO.lt y (mem_blk.1 hy)).1;have hw4:Wrote (blk (.slice av n cv)) w2 w4:=Wrote.of_grown hg4 (fun q hq=>mem_blk.2 hq);have hR4:=HR2.wrote hw4 (fun y hy=>by have:=hv y hy;omega);refine⟨⟨xs++[y.1],y.2,a4,n+1,c4,rfl,hid (by rw[hn.out];simp),hid ⟨hal.out,hR4,?_,HW.andNew hw4 (fun y hy=>by have:=hv y hy;omega),HB2.keepW hw4 (fun h=>by have:=hv _ h;omega)⟩⟩,?_⟩
  ·rw[List.length_append,List.flatMap_append,<-hn.out];simpa[sCl,hq0.out]using how4
  rw[hR4.rdLen,hrd1.out];exact hlt2.out
theorem pk_all_want(f:FuncId)(cap:Array Value)(tk:List UInt8->Option (WantV×List UInt8))(hs:∀l x r,tk l=some (x,r)->r.length<l.length){w:World}{B p:Nat}{l:List UInt8}(h:Rd w B p l)(hL:l.length<=65536)(bl:List Nat)(hbl:∀b∈bl,b<w.heap.size/\b≠p)(hb:∀b∈bl,Blk w b #[.pointer (some ⟨p,0,none⟩)] 161)(hf:fnC f)
  (hc:∀W l1,Rd W B p l1->(∀b∈bl,Blk W b #[.pointer (some ⟨p,0,none⟩)] 161)->Calls prog f cap W (TakeP tk wVl B p l1 W)):
  Calls prog 139 #[.agg #[.pointer (some ⟨p,0,none⟩)],.func (.func f) #[] cap] w (AllR WantV.cl 169 2 tk B p l w):=by
 obtain⟨W0,hW0⟩:=gen_of (w.alloc (.cells #[.pointer (some ⟨p,0,none⟩)] 161));have hs0:W0.heap.size=w.heap.size+1:=by rw[<-hW0];simp
 have hpb:=h.lt;have hbw:=h.base;have b0:Below w.heap.size w W0:=by rw[<-hW0];exact bel_refl.alloc nat_le_rfl _
 have HI0:Hid (AllI WantV.cl 169 2 tk B p l w [] l (.slice none 0 0) W0):=hid (by
  refine⟨AlS.start l,?_,World.ownsRow_nil _ _ _ _,?_,?_⟩
  ·exact h.below b0
  ·rw[<-hW0];exact Wrote.alloc _ _ _
  rw[<-hW0];exact Blk.new _ _ _)
 have CL:=hid (fun(W:World)(l':List UInt8)(h:Rd W B p l')=>wire_Left h);have hc:=hid hc;have hs:=hid hs;have hbl:=hid hbl;have hb:=hid hb;unfold fnC at hf;clear h b0;go_enter func139,ntmps139;go_wp2_with fail
 go_loopw [5] (fun v wr=>∃(xs:List WantV)(r:List UInt8)(av:Option Addr)(n cv:Nat),v=.slice av n cv/\Hid (n=xs.length)/\Hid (AllI WantV.cl 169 2 tk B p l w xs r (.slice av n cv) wr)) (fun _ wr=>rdLen (wr.cell? ⟨p,0,none⟩))
 case atStart=>exact⟨[],l,none,0,0,rfl,hid rfl,HI0⟩
 case round=>
  obtain⟨xs,r,av,n,cv,rfl,hn,hI⟩:=hrel;have kq:wr.cell? ⟨w.heap.size,0,none⟩=some (.pointer (some ⟨p,0,none⟩)):=hI.out.box.cell 0;have CLJ:=hid (CL wr _ hI.out.rd);have hle:=hI.out.al.le;obtain⟨m,hm⟩:=gen_of r.length;rw[hm]at CLJ hle;rcases Nat.eq_zero_or_pos m with hz | hpos
  ·subst hz;have hr0:r=[]:=List.length_eq_zero_iff.1 hm;subst hr0;have H:=hid (show AllR WantV.cl 169 2 tk B p l w (.returned (.slice av n cv)) wr from⟨hI.out.wrote,.inr ⟨xs,_,hI.out.al.ends,rfl,hI.out.rd,by have:=hI.out.own;rw[hn.out]at this ⊢;exact ownsRow_mono this (by omega)⟩⟩);clear hm hle;go_wp2_with fail;refine CLJ.mono ?_;rintro e w1 ⟨rfl,rfl⟩;go_wp2_with fail
   go_ret;exact H.out
  have hne:Hid (r≠[]):=hid (fun e=>by rw[e]at hm;simp at hm;omega);have CC:=hid (hc wr r hI.out.rd (fun b hb'=>(hb b hb').keepW hI.out.wrote (by simpa using(hbl b hb').2)));have hs1:=hI.out.wrote.size;have hlt:=hI.out.box.lt;have hnm:n+1<=65537:=by rw[hn.out];omega
  clear hle hm;go_wp2_with fail;refine CLJ.mono ?_;rintro e w1 ⟨rfl,rfl⟩;go_wp2_with fail
  refine CC.mono ?_;rintro e w2 (⟨hno,rfl,hw2⟩ | ⟨y,hy,rfl,hR2,hw2⟩)
  ·exact⟨rfl,hI.out.wrote.trans hw2,.inl ⟨hI.out.al.fails hne.out hno,rfl⟩⟩
  have hal:=hid (hI.out.al.step hs.out hne.out hy);have hlt2:=hid (hs _ y.1 y.2 hy);have HR2:=hid hR2;have HO:=hid hI.out.own;have ho2:w2.ownsRow (w.heap.size+1) 169 2 (.slice av n cv) n (xs.flatMap WantV.cl):=by have h8:=hw2.row (by simp;omega) HO.out;rw[<-hn.out]at h8;exact h8
  have HW:=hid (hI.out.wrote.trans hw2);have HB2:=hid (hI.out.box.keepW hw2 (by simp;omega));have hs2:=hw2.size;have hrd1:=hid hI.out.rd.rdLen;(obtain⟨qc,hqc⟩:=gen_of y.1.cl);have hqs:=hid (show qc.length=2 by rw[<-hqc];rfl);have hqo:=hid (show∀u∈qc,u.oneCell'=true by rw[<-hqc];simp[WantV.cl,Value.oneCell']);rw[show wVl y.1=.agg y.1.cl.toArray from rfl,hqc];replace hqc:=hid hqc;clear hw2 hR2 hy CC;go_wp2_with (first | (refine wpList_plain rfl fun _ hK=>wp_slice_one _ rfl Tryz.eWa (by decide) (by decide) (.agg qc.toArray) rfl (by rw[show(Value.agg qc.toArray).cells=qc.toArray from rfl,List.size_toArray,hqs.out]) (hK _ _ ?_)) | (at_builtin;refine append_grp rfl _ _ rfl Tryz.eWa (by decide) (w.heap.size+1) (.slice av n cv) n (xs.flatMap WantV.cl) rfl (ho2.alloc _) w2.heap.size qc 169 rfl (Blk.new w2 qc.toArray 169) hqs.out hqo.out (by omega) (by omega) (by simp;omega) ?_;intro v' w4 how4 hg4 hn4));obtain⟨a4,c4,rfl⟩:=own_slice how4;have hv:∀y∈blk (.slice av n cv),w.heap.size+1<=y:=fun y hy=>(HO.lt y (mem_blk.1 hy)).1;have hw4:Wrote (blk (.slice av n cv)) w2 w4:=(Wrote.alloc _ w2 (.cells qc.toArray 169)).trans (Wrote.of_grown hg4 (fun q hq=>mem_blk.2 hq));have hR4:=HR2.wrote hw4 (fun y hy=>by have:=hv y hy;omega);refine⟨⟨xs++[y.1],y.2,a4,n+1,c4,rfl,hid (by rw[hn.out];simp),hid ⟨hal.out,hR4,?_,HW.andNew hw4 (fun y hy=>by have:=hv y hy;omega),HB2.keepW hw4 (fun h=>by have:=hv _ h;omega)⟩⟩,?_⟩
  ·rw[List.length_append,List.flatMap_append,<-hn.out];simpa[hqc.out]using how4
  rw[hR4.rdLen,hrd1.out];exact hlt2.out
end
end Go.Proofs.YtkghejaimhoboaaGreatDoor
