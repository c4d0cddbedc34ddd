/- Parts of the proof of ScriptRaws. -/
import Derived.Test.YtkghejaimhoboaaGreatDoorPr20
import Derived.Deep.CutRange
import Derived.Test.YtkghejaimhoboaaGreatDoorPr06
set_option linter.unusedSimpArgs false
set_option linter.unusedVariables false
set_option maxRecDepth 100000
set_option maxHeartbeats 8000000
namespace Go.Proofs.YtkghejaimhoboaaGreatDoor
open Go.RowKit Go.Shelf Go.Proofs.Tryz
section
attribute [local go_sem] Oper.semAt_some
theorem WriteDo.below{C:PkCode}{w0 w1:World}{x:TnC}(h:WriteDo C w0 x)(hb:Below w0.heap.size w0 w1):WriteDo C w1 x:=fun c v hv=>by
 obtain⟨f1,c1,f2,c2,f3,c3,f4,c4,e,hf,hw⟩:=h c v hv;refine⟨f1,c1,f2,c2,f3,c3,f4,c4,e,hf,fun W F p l hB hW hl hF=>hw W F p l ?_ hW hl fun b hb'=>?_⟩
 ·exact hb.trans (hB.mono hb.size)
 have:=hF b hb';have:=hb.size;omega
structure RawR (C:PkCode)(s:Sc)(w:World)(b B:Nat)(o:Option Int)(W:World):Prop where
 err:Boxed W B 31 (.int .i64 0)
 below:Below w.heap.size w W
 out:(rightS s/\(rawS C s).length<=65536/\o=none/\∃v,Boxed W b 22 v/\W.ownsRow w.heap.size 5 1 v (rawS C s).length (bs (rawS C s)))\/
  (rightS s/\¬(rawS C s).length<=65536/\o=some 3/\Boxed W b 22 (.slice none 0 0))\/(¬rightS s/\o=some 2/\Boxed W b 22 (.slice none 0 0))
structure RawA (C:PkCode)(s:Sc)(w:World)(e:Ending)(w':World):Prop where
 below:Below w.heap.size w w'
 out:(rightS s/\(rawS C s).length<=65536/\∃v,e=.returned (.tuple #[v,.int .i64 0])/\w'.ownsRow w.heap.size 5 1 v (rawS C s).length (bs (rawS C s)))\/
  (rightS s/\¬(rawS C s).length<=65536/\e=.returned (.tuple #[.slice none 0 0,.int .i64 3]))\/(¬rightS s/\e=.returned (.tuple #[.slice none 0 0,.int .i64 2]))
theorem ScC.size(s:ScC):s.cells.toArray.size=9:=rfl
theorem sc_Raw1(C:PkCode)(s:ScC)(w0 w:World)(g b:Nat)(hg:Blk w g s.cells.toArray 30)(hb:Boxed w b 22 (.slice none 0 0))(hw0:Below w0.heap.size w0 w)(hb0:w0.heap.size<=b)(hgb:g≠b)(B:Nat)(hB:Boxed w B 31 (.int .i64 0))(hBb:B≠b)
  (hs:s.In w) (hT:TzAt w) (hN:NewOK s.cf) (hk:∀x∈s.ts,KindDo x) (hk2:rightS s.sc->∀x∈s.ts,WriteDo C w x):
  Calls prog 31 #[.pointer (some ⟨g,0,none⟩),.pointer (some ⟨b,0,none⟩)] w fun e w'=>∃o,e=ends o (.tuple #[])/\RawR C s.sc w0 b B o w'/\Boxed w' B 31 (.int .i64 0):=by
 have C1:=hid (sc_right s 2 w hs hT hN hk);obtain⟨sv,hsv⟩:=gen_of s.cells.toArray;have is:(prog.info? 30).map (·.size)=some sv.size:=by rw[<-hsv];exact(by kernel_rfl:(prog.info? 30).map (·.size)=some 9)
 rw[hsv]at hg C1;replace hsv:=hid hsv;have hb':=hid hb;have HG:=hid hg;clear hb;go_enter func31,ntmps31;go_wp2_with (refine wL 30 rfl rfl hg underlying30 ?_ rfl rfl is)
 refine C1.mono ?_;rintro e w1 ⟨r,hr,rfl,hb1⟩;have hbx1:=boxed_below hb'.out hb1;have hB1:=hid (boxed_below hB hb1);have hg1:=HG.below hb1;have hb01:=hid (hw0.trans (hb1.mono hw0.size));cases r with
 |false=>have H:=hid (show RawR C s.sc w0 b B (some 2) w1 from⟨hB1.out,hb01.out,.inr (.inr ⟨fun h=>by have:=hr.2 h;simp at this,rfl,hbx1⟩)⟩);exact⟨rfl,some 2,rfl,H.out,hB1.out⟩
 | true=>
  have hr':rightS s.sc:=by simpa using hr
  have C2:=hid (sc_raw C s w1 (hs.below hb1) hr' (fun x hx=>(hk2 hr' x hx).below hb1));rw[hsv.out]at C2;replace hr':=hid hr';replace hbx1:=hid hbx1;clear hb1 hr hg;go_wp2_with (refine wL 30 rfl rfl hg1 underlying30 ?_ rfl rfl is);refine C2.mono ?_;rintro e w2 ⟨hb2,ho⟩;have hbx2:=boxed_below hbx1.out hb2;have hB2:=hid (boxed_below hB1.out hb2);have hb02:=hid (hb01.trans (hb2.mono hb01.size));rcases ho with⟨hl,v,rfl,hv⟩ | ⟨hl,rfl⟩
  ·obtain⟨av,cv,rfl⟩:=own_slice hv;have hB3:=hid (show Boxed (w2.setCell ⟨b,0,none⟩ (.slice av (rawS C s.sc).length cv)) B 31 (.int .i64 0)from hB2.other hBb _);have H:Hid (RawR C s.sc w0 b B none (w2.setCell ⟨b,0,none⟩ (.slice av (rawS C s.sc).length cv))):=hid ⟨hB3.out,hb02.setCell hb0 _,.inl ⟨hr'.out,hl,rfl,_,hbx2.set _,ownsRow_mono (ownsRow_setCell_below (a:=⟨b,0,none⟩) hv hbx1.lt _) hb01.size⟩⟩;have kf:=hbx2.frozen;have kc:=hbx2.cell;clear hb2 hv;go_wp2
   go_end0
   exact⟨none,rfl,H.out,hB3.out⟩
  have H:=hid (show RawR C s.sc w0 b B (some 3) w2 from⟨hB2.out,hb02.out,.inr (.inl ⟨hr'.out,hl,rfl,hbx2⟩)⟩);exact⟨rfl,some 3,rfl,H.out,hB2.out⟩
theorem sc_Raw(C:PkCode)(s:ScC)(w:World)(hs:s.In w)(hT:TzAt w)(hN:NewOK s.cf)(hk:∀x∈s.ts,KindDo x)(hk2:rightS s.sc->∀x∈s.ts,WriteDo C w x):
  Calls prog 11 #[.agg s.cells.toArray] w (RawA C s.sc w):=by
 have hmf:∀(fn:Fn)(first cap:Array Value)(w:World),(Instr.makeFunc fn first cap).run prog w=.ok (.func fn first cap) w:=fun _ _ _ _=>rfl;obtain⟨sv,hsv⟩:=gen_of s.cells.toArray;obtain⟨W0,hW0⟩:=gen_of (w.alloc (.cells sv 30));have hb0:Below w.heap.size w W0:=by rw[<-hW0];exact bel_refl.alloc nat_le_rfl _
 have hg0:Blk W0 w.heap.size s.cells.toArray 30:=by rw[<-hW0,<-hsv];exact Blk.new _ _ _
 have hb1:Below w.heap.size w (W0.alloc (.cells #[.slice none 0 0] 22)):=hb0.alloc hb0.size _;have hx1:Boxed (W0.alloc (.cells #[.slice none 0 0] 22)) W0.heap.size 22 (.slice none 0 0):=Boxed.new _ _ _;have hg1:Blk (W0.alloc (.cells #[.slice none 0 0] 22)) w.heap.size s.cells.toArray 30:=hg0.alloc _;have hw0:=hg0.lt;have hw1:(W0.alloc (.cells #[.slice none 0 0] 22)).heap.size=W0.heap.size+1:=by simp
 obtain⟨W1,hW1⟩:=gen_of (W0.alloc (.cells #[.slice none 0 0] 22));rw[hW1]at hb1 hx1 hg1 hw1;obtain⟨b,hbb⟩:=gen_of W0.heap.size;rw[hbb]at hx1 hw1 hw0;have he:=enters_of func31 (by kernel_rfl) rfl;have C1:=hid (sc_guard 31 #[.pointer (some ⟨w.heap.size,0,none⟩),.pointer (some ⟨b,0,none⟩)] (RawR C s.sc w b W1.heap.size) W1 he
  (sc_Raw1 C s w (W1.alloc (.cells #[.int .i64 0] 31)) w.heap.size b (hg1.alloc _) (hx1.alloc _) (hb1.alloc hb1.size _) (by omega) (by omega) W1.heap.size (Boxed.new _ _ _) (by omega)
   (hs.below (hb1.alloc hb1.size _)) (hT.below (hb1.alloc hb1.size _)) hN hk (fun hr x hx=>(hk2 hr x hx).below (hb1.alloc hb1.size _))))
 rw[hsv];have hb:=hid (show w.heap.size<=b by omega);replace hw1:=hid hw1;replace hb1:=hid hb1;clear hsv hs hT hN hk hk2 hg0 hg1 hb0 hx1;go_enter func11,ntmps11;go_wp2_with fail
 refine C1.mono ?_;rintro e w2 ⟨o,w1,rfl,hR,hb2,hl⟩;have hsz:(w1.setCell ⟨W1.heap.size,0,none⟩ (.int .i64 (o.getD 0))).heap.size=w1.heap.size:=by simp
 have hBe0:Below w.heap.size w (w1.setCell ⟨W1.heap.size,0,none⟩ (.int .i64 (o.getD 0))):=hR.below.setCell (by have:=hw1.out;simp;omega) _;have hBel:Below w.heap.size w w2:=hBe0.trans (hb2.mono hR.below.size);have hkeep:∀v,Boxed w1 b 22 v->Boxed w2 b 22 v:=fun v h=>boxed_below (h.other (show b≠W1.heap.size by have:=hw1.out;omega) _) (by rw[hsz];exact hb2);obtain⟨av,nv,cv,hv,hA⟩:∃av nv cv,Boxed w2 b 22 (.slice av nv cv)/\∀w3,Below w.heap.size w w3->(∀n xs,w2.ownsRow w.heap.size 5 1 (.slice av nv cv) n xs->w3.ownsRow w.heap.size 5 1 (.slice av nv cv) n xs)->RawA C s.sc w (.returned (.tuple #[.slice av nv cv,.int .i64 (o.getD 0)])) w3:=by
  rcases hR.out with⟨h1,h2,rfl,v,h3,h4⟩ | ⟨h1,h2,rfl,h3⟩ | ⟨h1,rfl,h3⟩
  ·obtain⟨av,cv,rfl⟩:=own_slice h4;refine⟨_,_,_,hkeep _ h3,fun w3 hb hr=>⟨hb,.inl ⟨h1,h2,_,rfl,hr _ _ ?_⟩⟩⟩;refine ownsRow_below (ownsRow_setCell_other (a:=⟨W1.heap.size,0,none⟩) h4 (fun e=>?_) _) (by rw[hsz];exact hb2);exact hR.err.not_row (by decide) h4 e.symm
  ·exact⟨_,_,_,hkeep _ h3,fun w3 hb hr=>⟨hb,.inr (.inl ⟨h1,h2,rfl⟩)⟩⟩
  exact⟨_,_,_,hkeep _ h3,fun w3 hb hr=>⟨hb,.inr (.inr ⟨h1,rfl⟩)⟩⟩
 obtain⟨z,hz⟩:=gen_of (o.getD 0);rw[hz]at hA ⊢;replace hA:=hid hA;replace hBel:=hid hBel;have kc:=hv.cell;have kf:=hv.frozen;have HV:=hid hv;clear hb2 hR hl hsz hkeep hz;go_wp2;refine bodyPost_ret (results_ct1 results11 rfl (v:=.slice av nv cv) (x:=.int .i64 z) ?_ rfl) rfl ?_
 ·have k2:=(HV.set (.slice av nv cv)).cell;simp[go_sem,k2,loadVar]
 refine hA _ (hBel.setCell hb.out _) fun n xs hr=>ownsRow_setCell_other hr (fun e=>?_) _;exact HV.not_row (by decide) hr e.symm
theorem Tryz.eIn:ElemT prog 49 3 (.int .i64 0) 1 8:=⟨underlying49,by kernel_rfl,rfl⟩
def rI(k:Nat)(l:List UInt8):Option (Int×List UInt8):=(rNum k l).bind fun c=>some ((c.1:Int),c.2)
theorem rMany_snoc{α:Type}(take:List UInt8->Option (α×List UInt8)):∀(n:Nat)(l:List UInt8),rMany take (n+1) l=(rMany take n l).bind fun r=>(take r.2).bind fun x=>some (r.1++[x.1],x.2)
 | 0,l=>by simp[rMany]
 | n+1,l=>by
  rw[rMany];cases h:take l with
  | none=>simp[rMany,h]
  | some x=>
   rw[Option.bind_some,rMany_snoc take n x.2]
   conv=>rhs;rw[rMany,h,Option.bind_some]
   cases rMany take n x.2 with
   | none=>rfl
   |some r=>
    simp only[Option.bind_some];cases take r.2 with
    | none=>rfl
    | some y=>rfl
theorem rMany_none{α:Type}(take:List UInt8->Option (α×List UInt8))(l:List UInt8)(j:Nat)(h:rMany take j l=none):∀n,j<=n->rMany take n l=none
 | 0, hn => by obtain rfl:j=0:=by omega
               exact h
 | n+1,hn=>by
  rcases Nat.lt_or_ge n j with hj | hj
  ·obtain rfl:j=n+1:=by omega
   exact h
  rw[rMany_snoc,rMany_none take l j h n hj];rfl
def ivs(xs:List Int):List Value:=xs.map fun z=>.int .i64 z
def NumP(k B p:Nat)(l:List UInt8)(w:World)(e:Ending)(w':World):Prop:=
 (rNum k l=none/\e=.panicked (given 390)/\Wrote [p] w w')\/∃x,rNum k l=some x/\e=.returned (.int .i64 x.1)/\Rd w' B p x.2/\Wrote [p] w w'
structure TkI (k n B p rb:Nat)(l:List UInt8)(w:World)(j:Nat)(v:Value)(W:World):Prop where
 out:∃xs l',rMany (rI k) j l=some (xs,l')/\Rd W B p l'/\W.ownsRow w.heap.size 3 1 v j (ivs xs)
 wrote:Wrote [p] w W
 box:Blk W rb #[.pointer (some ⟨p,0,none⟩)] 61
structure TkP (k n B p:Nat)(l:List UInt8)(w:World)(e:Ending)(w':World):Prop where
 wrote:Wrote [p] w w'
 out:(rMany (rI k) n l=none/\e=.panicked (given 390))\/∃xs l' v,rMany (rI k) n l=some (xs,l')/\e=.returned v/\Rd w' B p l'/\w'.ownsRow w.heap.size 3 1 v n (ivs xs)
theorem sc_taken(f:FuncId)(cap:Array Value)(k n B p rb:Nat)(l:List UInt8)(w:World)(hf:fnC f)(hR:Rd w B p l)(hb:Blk w rb #[.pointer (some ⟨p,0,none⟩)] 61)(hpb:rb≠p)(hrb:rb<w.heap.size)(hn:n<=65536)
  (hc:∀W l1,Rd W B p l1->Blk W rb #[.pointer (some ⟨p,0,none⟩)] 61->Calls prog f cap W (NumP k B p l1 W)):
  Calls prog 21 #[.int .i64 n,.func (.func f) #[] cap] w (TkP k n B p l w):=by
 have H0:=hid (show TkI k n B p rb l w 0 (.slice none 0 0) w from⟨⟨[],l,rfl,hR,World.ownsRow_nil _ _ _ _⟩,Wrote.refl _ _,hb⟩);have hbw:=hR.base;have hpw:p<w.heap.size:=by have:=hR.lt;omega
 have hc:=hid hc;unfold fnC at hf;clear hR hb;go_enter func21,ntmps21;go_wp2_with fail
 go_loopw [5,7] (fun v i wr=>∃(j:Nat)(av:Option Addr)(cv:Nat),i=.int .i64 j/\v=.slice av j cv/\j<=n/\Hid (TkI k n B p rb l w j (.slice av j cv) wr)) (fun _ i _=>n-(intOf i).toNat)
 case atStart=>exact⟨0,none,0,by go_num,rfl,Nat.zero_le _,H0⟩
 case round=>
  obtain⟨j,av,cv,rfl,rfl,hj,hI⟩:=hrel;by_cases hlt:j<n
  ·obtain⟨xs,l',hm,hR,ho⟩:=hI.out.out;have CC:=hid (hc wr l' hR hI.out.box);have hsn:=hid (rMany_snoc (rI k) j l);rw[hm]at hsn;replace ho:=hid ho;clear hR hm;have hsz:=hI.out.wrote.size;go_wp2_with fail
   refine CC.mono ?_;rintro e w1 (⟨hx,rfl,hw1⟩ | ⟨x,hx,rfl,hR1,hw1⟩)
   ·have hno:rMany (rI k) n l=none:=rMany_none _ _ (j+1) (by rw[hsn.out,Option.bind_some];unfold rI;rw[hx];rfl) n (by omega);exact⟨rfl,hI.out.wrote.trans hw1,.inl ⟨hno,rfl⟩⟩
   obtain⟨z,hz⟩:∃z:Int,z=(x.1:Int):=⟨_,rfl⟩;rw[<-hz];have hw:Hid (Wrote [p] w w1):=hid (hI.out.wrote.trans hw1);have ho1:w1.ownsRow w.heap.size 3 1 (.slice av j cv) j (ivs xs):=hw1.row (by simp;have:=hpw;omega) ho.out;have hsz1:=hw.size;have hnx:Hid (rMany (rI k) (j+1) l=some (xs++[z],x.2)):=hid (by rw[hsn.out,Option.bind_some];unfold rI;rw[hx,hz];rfl);have hb1:=hI.out.box.keepW hw1 (by simpa using hpb);have HO:=hid ho1;have HR1:=hid hR1;have HB1:=hid hb1;clear hw1 hx hR1 hb1 hz ho;go_wp2_with (at_builtin;refine append_one rfl _ _ rfl Tryz.eIn w.heap.size _ _ _ rfl ho1 (.int .i64 z) rfl rfl (by omega) (by omega) (by omega) ?_;intro v' w4 how4 hg4);go_roundw
   case rel=>
    obtain⟨a4,c4,rfl⟩:=own_slice how4;have hv:∀y∈blk (.slice av j cv),w.heap.size<=y:=fun y hy=>(HO.lt y (mem_blk.1 hy)).1;have hw4:Wrote (blk (.slice av j cv)) w1 w4:=Wrote.of_grown hg4 (fun q hq=>mem_blk.2 hq);refine⟨j+1,a4,c4,by go_num,rfl,by omega,hid ⟨⟨_,_,hnx.out,?_,?_⟩,?_,?_⟩⟩
    ·exact HR1.wrote hw4 (fun y hy=>Nat.le_trans hbw (hv y hy))
    ·have e:ivs (xs++[z])=ivs xs++[.int .i64 z]:=by simp[ivs]
     rw[e];exact how4
    ·exact hw.andNew hw4 hv
    exact HB1.keepW hw4 (fun h=>by have:=hv _ h;have:=hrb;omega)
   case measure=>simp[intOf];omega
  obtain rfl:j=n:=by omega
  obtain⟨xs,l',hm,hR,ho⟩:=hI.out.out;have H:=hid (show TkP k j B p l w (.returned (.slice av j cv)) wr from⟨hI.out.wrote,.inr ⟨xs,l',_,hm,rfl,hR,ho⟩⟩);clear hR ho hm;go_wp2;go_ret;exact H.out
theorem rAll_rMany{α:Type}(take:List UInt8->Option (α×List UInt8))(ht:∀l x r,take l=some (x,r)->r.length<l.length):∀(j n:Nat)(l r:List UInt8)(xs:List α),rMany take j l=some (xs,r)->l.length<=n->
  (r=[]->rAll take n l=some xs)/\(r≠[]->take r=none->rAll take n l=none)
 | 0,n,l,r,xs,h,hn=>by
  cases h;cases n with
  |zero=>have:l=[]:=List.length_eq_zero_iff.1 (by omega);subst this;exact⟨fun _=>rfl,fun h=>absurd rfl h⟩
  |succ n=>unfold rAll;refine⟨fun h=>by rw[if_pos h],fun h hr=>by rw[if_neg h,hr];rfl⟩
 | j+1,n,l,r,xs,h,hn=>by
  unfold rMany at h;cases h1:take l with
  | none=>rw[h1]at h;cases h
  | some x=>
   rw[h1,Option.bind_some]at h;cases h2:rMany take j x.2 with
   | none=>rw[h2]at h;cases h
   | some y=>
    rw[h2,Option.bind_some]at h;cases h;have hlt:=ht l x.1 x.2 h1;have hne:l≠[]:=by rintro rfl;simp at hlt
    cases n with
    | zero=>have:=List.length_pos_iff.2 hne;omega
    |succ n=>obtain⟨a,b⟩:=rAll_rMany take ht j n x.2 y.2 y.1 h2 (by omega);unfold rAll;rw[if_neg hne,h1,Option.bind_some];exact⟨fun hr=>by(rw[a hr];rfl),fun hr hn=>by(rw[b hr hn];rfl)⟩
theorem rNum_len{k:Nat}{l r:List UInt8}{n:Nat}(h:rNum k l=some (n,r)):l.length=k+r.length:=by
 unfold rNum at h;split at h
 ·cases h
 cases h;rw[List.length_drop];omega
theorem rTurn_len{C:PkCode}{u:Bool}{l r:List UInt8}{t:Tn}(h:rTurn C u l=some (t,r)):r.length+3<=l.length:=by rw[rTurn_some C h,List.length_append];unfold turnB;rw[List.length_append,List.length_append,numB_len,numB_len];omega
structure LsN {α:Type}(f:α->List Value)(size:Nat)(w:World)(h:Hd)(xs:List α)(M:List Nat):Prop where
 at':LsAt f size w h.a h.n h.c xs
 off:xs≠[]->∀y,h.a=some y->y.block∉M
theorem LsN.step{α:Type}{f:α->List Value}{size:Nat}{w w':World}{h:Hd}{xs:List α}{M M' M2:List Nat}(k:LsN f size w h xs M)(hw:Wrote M' w w')(h1:∀b∈M',b∈M\/w.heap.size<=b)(h2:∀b∈M2,b∈M\/w.heap.size<=b):LsN f size w' h xs M2:=by
 have hlt:xs≠[]->∀y,h.a=some y->y.block<w.heap.size:=fun hne y hy=>by obtain⟨x,hx⟩:∃x,xs[0]?=some x:=⟨_,List.getElem?_eq_getElem (List.length_pos_iff.2 hne)⟩;obtain⟨g,off,e,hg, -⟩:=k.at'.at' 0 x hx;rw[hy]at e;cases e;exact hg
 refine⟨⟨k.at'.len,k.at'.le,k.at'.max,fun i x hx=>?_⟩,fun hne y hy hb=>?_⟩
 ·have hne:xs≠[]:=by rintro rfl;simp at hx
  obtain⟨g,off,ha,hg,hr⟩:=k.at'.at' i x hx;refine⟨g,off,ha,Nat.lt_of_lt_of_le hg hw.size,fun j v hj=>?_⟩;rw[<-hr j v hj];unfold World.cell?;rw[hw.block g hg (fun hm=>?_)];rcases h1 g hm with h3 | h3
  ·exact k.off hne _ ha h3
  omega
 rcases h2 _ hb with h3 | h3
 ·exact k.off hne _ hy h3
 have:=hlt hne y hy;omega
theorem LsN.nil{α:Type}{f:α->List Value}{size:Nat}(w:World)(M:List Nat):LsN f size w hdZ ([]:List α) M:=⟨LsAt.nil w,fun h=>absurd rfl h⟩
structure InN (w:World)(x:TnC)(M:List Nat):Prop where
 lw:LsN WantV.cl 2 w x.h.w x.t.pk.wants M
 lc:LsN iCl 1 w x.h.c x.t.pk.codes M
 lf:LsN sCl 1 w x.h.f x.t.pk.filters M
 lp:LsN iCl 1 w x.hp x.t.picks M
theorem InN.inn{w:World}{x:TnC}{M:List Nat}(h:InN w x M):x.t.In w x.h x.hp:=⟨⟨h.lw.at',h.lc.at',h.lf.at'⟩,h.lp.at'⟩
theorem InN.step{w w':World}{x:TnC}{M M' M2:List Nat}(k:InN w x M)(hw:Wrote M' w w')(h1:∀b∈M',b∈M\/w.heap.size<=b)(h2:∀b∈M2,b∈M\/w.heap.size<=b):InN w' x M2:=⟨k.lw.step hw h1 h2,k.lc.step hw h1 h2,k.lf.step hw h1 h2,k.lp.step hw h1 h2⟩
def tn0(k cn:Int):Tn:={zTn k with conn:=cn}
structure ReadP (C:PkCode)(B p tb:Nat)(t0:Tn)(l:List UInt8)(w:World)(e:Ending)(w':World):Prop where
 wrote:Wrote [p,tb] w w'
 out:(rPart C false t0 l=none/\e=.panicked (given 390))\/∃(y:TnC)(l':List UInt8),rPart C false t0 l=some (y.t,l')/\e=.returned (.tuple #[])/\Rd w' B p l'/\Blk w' tb y.cells.toArray 55/\∀M,(∀b∈M,b<w.heap.size)->InN w' y M
def ReadDo(C:PkCode)(k:Int):Prop:=∀c v,kindG c k=some v->∃f1 c1 f2 c2 f3 c3 f4 c4,v=.agg #[fnV f1 c1,fnV f2 c2,fnV f3 c3,fnV f4 c4]/\fnC f4/\
 ∀W B p l tb cn,Rd W B p l->Blk W tb ((tn0 k cn).cells h3Z hdZ).toArray 55->B<=tb->Calls prog f4 (#[.agg #[.pointer (some ⟨p,0,none⟩)],.pointer (some ⟨tb,0,none⟩)]++c4) W (ReadP C B p tb (tn0 k cn) l W)
theorem sc_P11(W:World)(B p rb:Nat)(l:List UInt8)(hR:Rd W B p l)(hb:Blk W rb #[.pointer (some ⟨p,0,none⟩)] 61):Calls prog 22 #[.pointer (some ⟨rb,0,none⟩)] W (NumP 2 B p l W):=by
 have CN:=hid (sc_number hR 2 (by decide) (by decide));go_enter func22,ntmps22;go_wp2_with (refine wL 61 rfl rfl hb underlying61 ?_)
 refine CN.mono ?_;rintro e w1 (⟨hx,rfl,hw1⟩ | ⟨x,hx,rfl,hR1,hw1⟩)
 ·exact⟨rfl,.inl ⟨hx,rfl,hw1⟩⟩
 have H:=hid (show NumP 2 B p l W (.returned (.int .i64 x.1)) w1 from .inr ⟨x,hx,rfl,hR1,hw1⟩);clear hx hR1 hw1;go_wp2;go_ret;exact H.out
structure AnyP (b:Bool)(w:World)(e:Ending)(w':World):Prop where
 out:e=.returned (.bool b)/\Below w.heap.size w w'
structure IdxP (b:Bool)(w:World)(e:Ending)(w':World):Prop where
 out:∃z:Int,e=.returned (.int .i64 z)/\(0<=z↔b=true)/\Below w.heap.size w w'
theorem any_of{α:Type}{p:α->Bool}{l:List α}{k:Nat}{x:α}(h:l[k]?=some x)(hp:p x=true):l.any p=true:=List.any_eq_true.2 ⟨x,List.mem_of_getElem? h,hp⟩
theorem any_no{α:Type}{p:α->Bool}{l:List α}(h:∀(j:Nat) x,l[j]?=some x->p x=false):l.any p=false:=by rw[List.any_eq_false];intro x hx;obtain⟨j,hj,e⟩:=List.getElem_of_mem hx;rw[h j x (by rw[<-e];exact List.getElem?_eq_getElem hj)];simp
theorem ix_int(g:FuncId)(lb:Array Value)(p:Int->Bool){w:World}{a:Option Addr}{n c:Nat}{l:List Int}(h:LsAt iCl 1 w a n c l)(eg:fnC g)
  (hg:∀W x,x∈l->Below w.heap.size w W->Calls prog g (#[iVl x]++lb) W (AnyP (p x) W)):Calls prog 98 #[.slice a n c,.func (.func g) #[] lb] w (IdxP (l.any p) w):=by
 have hle:=h.le;have hmax:=h.max;unfold maxLen at hmax;have hn:n<=9223372036854775807:=by omega
 have HL:=hid h.len;have HG:=hid hg;have HV:=hid h;unfold fnC at eg;clear hle hmax hg h;go_enter func98,ntmps98;go_wp2_with fail
 go_loopw [8] (fun i wr=>∃k:Nat,i=.int .i64 k/\k<=n/\Hid (Below w.heap.size w wr)/\Hid (∀j x,j<k->l[j]?=some x->p x=false)) (fun i _=>n-(intOf i).toNat)
 case atStart=>exact⟨0,rfl,Nat.zero_le _,hid bel_refl,hid fun j x hj=>absurd hj (Nat.not_lt_zero _)⟩
 case round=>
  obtain⟨k,rfl,hk,hB,hall⟩:=hrel;rcases Nat.lt_or_ge k n with hlt | hge
  ·obtain⟨x,hx⟩:∃x,l[k]?=some x:=⟨_,List.getElem?_eq_getElem (by rw[HL.out];exact hlt)⟩;obtain⟨g1,o1,ha,hr⟩:=HV.range hx;have hc:=hr _ hB.out;have CC:=hid (HG wr x (List.mem_of_getElem? hx) hB.out);subst ha;replace hx:=hid hx;clear hr;(have h0:=hc 0 (.int .i64 x) rfl;simp only[Nat.mul_one,Nat.add_zero]at h0;unfold iVl at CC;clear hc);go_wp2_with fail
   refine CC.mono ?_;rintro e w1 ⟨rfl,hb1⟩;have HB1:=hid (hB.out.trans (hb1.mono hB.out.size));clear hb1;cases hp:p x with
   | false=>
    replace hp:=hid hp;go_wp2_with fail;go_roundw
    case rel=>
     refine⟨k+1,by go_num,by omega,HB1,hid fun j y hj hy=>?_⟩;by_cases hjk:j=k
     ·subst hjk;rw[hx.out]at hy;cases hy;exact hp.out
     exact hall.out j y (by omega) hy
    case measure=>simp[intOf];omega
   |true=>have hany:=hid (any_of hx.out hp);clear hp;go_wp2_with fail;go_ret;exact⟨_,rfl,⟨fun _=>hany.out,fun _=>by omega⟩,HB1.out⟩
  obtain rfl:k=n:=by omega
  have hno:=hid (any_no (p:=p) (l:=l) (fun j x hj=>hall.out j x (by have:=(List.getElem?_eq_some_iff.1 hj).1;have:=HL.out;omega) hj));go_wp2_with fail
  go_ret;exact⟨-1,rfl,⟨fun h=>by omega,fun h=>by rw[hno.out]at h;cases h⟩,hB.out⟩
theorem any_int(g:FuncId)(lb:Array Value)(p:Int->Bool){w:World}{a:Option Addr}{n c:Nat}{l:List Int}(h:LsAt iCl 1 w a n c l)(eg:fnC g)
  (hg:∀W x,x∈l->Below w.heap.size w W->Calls prog g (#[iVl x]++lb) W (AnyP (p x) W)):Calls prog 68 #[.slice a n c,.func (.func g) #[] lb] w (AnyP (l.any p) w):=by
 have HG:=hid (ix_int g lb p h eg hg);clear hg eg h;obtain⟨b,hb⟩:=gen_of (l.any p);rw[hb]at HG ⊢;clear hb;go_enter func68,ntmps68;go_wp2_with fail
 refine HG.mono ?_;rintro e w1 ⟨z,rfl,hz,hb1⟩;have HB1:=hid hb1;clear hb1;cases b with
 |true=>have h0:0<=z:=hz.2 rfl;clear hz;go_wp2_with fail;go_ret;exact⟨by simp[h0],HB1.out⟩
 |false=>
  have h0:¬0<=z:=fun h=>by have:=hz.1 h;cases this
  have d0:decide (0<=z)=false:=decide_eq_false h0;clear hz;go_wp2_with fail;go_ret;exact⟨by simp[h0],HB1.out⟩
def zSc:ScC:=⟨⟨0,0,0,0,0,0,[]⟩,0,hdZ,[]⟩
structure PaR (C:PkCode)(l:List UInt8)(w:World)(b B:Nat)(o:Option Int)(W:World):Prop where
 err:Boxed W B 31 (.int .i64 0)
 below:Below w.heap.size w W
 out:(65536<l.length/\o=some 3/\Blk W b zSc.cells.toArray 30)\/(l.length<=65536/\(∀s,rScript C false l=some s->¬rightS s)/\o=some 390/\Blk W b zSc.cells.toArray 30)\/
  (l.length<=65536/\∃s:ScC,rScript C false l=some s.sc/\rightS s.sc/\o=none/\Blk W b s.cells.toArray 30/\∀W',Wrote [b,B] W W'->s.In W')
structure PaK (w0:World)(b B:Nat)(W:World):Prop where
 below:Below w0.heap.size w0 W
 out:Blk W b zSc.cells.toArray 30
 err:Boxed W B 31 (.int .i64 0)
theorem PaK.wrote{w0 W W':World}{b B:Nat}{M:List Nat}(h:PaK w0 b B W)(hw:Wrote M W W')(hM:∀y∈M,w0.heap.size<=y)(h1:b∉M)(h2:B∉M):PaK w0 b B W':=⟨h.below.trans (hw.below h.below.size hM),h.out.keepW hw h1,hw.boxed h2 h.err⟩
theorem PaK.bad{C:PkCode}{l:List UInt8}{w0 W:World}{b B:Nat}(h:PaK w0 b B W)(hl:l.length<=65536)(hn:∀s,rScript C false l=some s->¬rightS s):PaR C l w0 b B (some 390) W:=⟨h.err,h.below,.inr (.inl ⟨hl,hn,rfl,h.out⟩)⟩
def scA(c:CfV)(pages:Int)(v:Value):Array Value:=#[.int .i64 c.window,.int .i64 c.room,.int .i64 c.inbox,.int .i64 c.subs,.int .i64 c.sessions,.int .i64 c.retained,.string ⟨c.secret.toArray⟩,.int .i64 pages,v]
theorem rScript_head{C:PkCode}{l l1 l0 sec:List UInt8}{z0 z1 z2 z3 z4 z5 z6:Int}(h:rMany rTwoI 7 l=some ([z0,z1,z2,z3,z4,z5,z6],l1))(ht:rTxt l1=some (sec,l0)):
  rScript C false l=(rAll (rTurn C false) l0.length l0).bind fun ts=>some ⟨⟨z0,z1,z2,z3,z4,z5,sec⟩,z6,ts⟩:=by
 unfold rScript;rw[h,Option.bind_some];dsimp only;rw[ht,Option.bind_some]
theorem rTxt_len{l r s:List UInt8}(h:rTxt l=some (s,r)):r.length+2<=l.length:=by rw[(rTxt_some h).1,List.length_append];unfold txtB;rw[List.length_append,numB_len];omega
theorem cell_keep{M:List Nat}{w w':World}(hw:Wrote M w w'){g k:Nat}(hg:g<w.heap.size)(hM:g∉M):w'.cell? ⟨g,k,none⟩=w.cell? ⟨g,k,none⟩:=by unfold World.cell?;rw[hw.block g hg hM]
def rdLen:Option Value->Nat
 | some (.slice _ n _)=>n
 | _=>0
theorem Rd.rdLen{W:World}{B p:Nat}{l:List UInt8}(h:Rd W B p l):rdLen (W.cell? ⟨p,0,none⟩)=l.length:=by obtain⟨a,n,c,hb,hr, -⟩:=h.out;rw[hb.cell];have:=hr.len;rw[bs_len]at this;exact this.symm
structure PaI (C:PkCode)(l0:List UInt8)(w0:World)(b B q p ob:Nat)(cf:CfV)(pages:Int)(ts:List TnC)(l':List UInt8)(v:Value)(W:World):Prop where
 read:rMany (rTurn C false) ts.length l0=some (ts.map TnC.t,l')
 rd:Rd W q p l'
 rdr:Blk W q #[.pointer (some ⟨p,0,none⟩)] 61
 out:Blk W ob (scA cf pages v) 30
 row:W.ownsRow q 55 30 v ts.length (ts.flatMap TnC.cells)
 each:∀x∈ts,InN W x (b::B::p::ob::blk v)
 keep:Below w0.heap.size w0 W
 len:3*ts.length+l'.length<=l0.length
 new:q<=ob/\w0.heap.size<=p/\w0.heap.size<=q
theorem blk_ne{w:World}{a b:Nat}{cs ds:Array Value}{S T:TypeId}(h:Blk w a cs S)(k:Blk w b ds T)(ht:S≠T):a≠b:=by rintro rfl;have e:w.heap[a]?=_:=h;rw[show w.heap[a]?=_ from k]at e;cases e;exact ht rfl
def zT:Array Value:=((tn0 0 0).cells h3Z hdZ).toArray
theorem eTurn:ElemT prog 28 55 (.agg zT) 30 352:=⟨underlying28,by kernel_rfl,by kernel_rfl⟩
theorem PaI.kept{C:PkCode}{l0 l':List UInt8}{w wr W:World}{b B q p ob tb:Nat}{cf:CfV}{pages:Int}{ts:List TnC}{v:Value}(h:PaI C l0 w b B q p ob cf pages ts l' v wr)(hw:Wrote [p,tb] wr W)(ht:wr.heap.size<=tb):
  Blk W ob (scA cf pages v) 30/\Blk W q #[.pointer (some ⟨p,0,none⟩)] 61/\W.ownsRow q 55 30 v ts.length (ts.flatMap TnC.cells)/\(∀x∈ts,InN W x (b::B::p::ob::blk v))/\(ob≠p/\q≠p/\q≠ob/\p∉blk v/\ob∉blk v/\q∉blk v):=by
 obtain⟨a,n,c,hp, -⟩:=h.rd.out;have n1:ob≠p:=blk_ne h.out hp (by decide);have n2:q≠p:=blk_ne h.rdr hp (by decide);have n3:q≠ob:=blk_ne h.rdr h.out (by decide);have m1:p∉blk v:=fun hm=>block_not_row (show wr.heap[p]?=_ from hp) (by decide) h.row (mem_blk.1 hm).symm;have m2:ob∉blk v:=fun hm=>block_not_row (show wr.heap[ob]?=_ from h.out) (by decide) h.row (mem_blk.1 hm).symm;have m3:q∉blk v:=fun hm=>block_not_row (show wr.heap[q]?=_ from h.rdr) (by decide) h.row (mem_blk.1 hm).symm;have lo:=h.out.lt;have lq:=h.rdr.lt;refine⟨h.out.keepW hw (by simp;omega),h.rdr.keepW hw (by simp;omega),not_own h.row hw (fun x hx hm=>?_),fun x hx=>(h.each x hx).step hw (fun k hb=>?_) (fun k hb=>.inl hb),n1,n2,n3,m1,m2,m3⟩
 ·rcases List.mem_cons.1 hx with rfl | hx
  ·exact m1 hm
  have:=(h.row.lt x (mem_blk.1 hm)).2;simp at hx;omega
 rcases List.mem_cons.1 hb with rfl | hb
 ·exact .inl (by simp)
 simp at hb;subst hb;exact .inr ht
theorem PaI.next{C:PkCode}{l0 l' l3:List UInt8}{w wr W W1 W2:World}{b B q p ob tb:Nat}{cf:CfV}{pages:Int}{ts:List TnC}{v v':Value}{y:TnC}(h:PaI C l0 w b B q p ob cf pages ts l' v wr)(hw:Wrote [p,tb] wr W)(ht:wr.heap.size<=tb)
  (hr:rTurn C false l'=some (y.t,l3)) (hR:Rd W q p l3) (hy:InN W y (b::B::p::ob::blk v)) (hrow:W1.ownsRow q 55 30 v' (ts.length+1) (ts.flatMap TnC.cells++y.cells)) (hg:Wrote (blk v) W W1) (hn:∀k,v'.ownBlock=some k->v.ownBlock=some k\/W.heap.size<=k)
  (hs:Wrote [ob] W1 W2) (ho:Blk W2 ob (scA cf pages v') 30):PaI C l0 w b B q p ob cf pages (ts++[y]) l3 v' W2:=by
 obtain⟨k1,k2,k3,k4,n1,n2,n3,m1,m2,m3⟩:=h.kept hw ht;have lo:=k1.lt;have hlt:=h.rd.lt;have hob:ob∉blk v':=fun hm=>by
  rcases hn ob (mem_blk.1 hm)with e | e
  ·exact m2 (mem_blk.2 e)
  omega
 have hsz:W.heap.size<=W1.heap.size:=hg.size;have hv:∀b∈blk v,q<=b:=fun b hb=>(h.row.lt b (mem_blk.1 hb)).1;have hA:∀x,InN W x (b::B::p::ob::blk v)->InN W2 x (b::B::p::ob::blk v'):=fun x hx=>by
  have h1:InN W1 x (b::B::p::ob::(blk v++blk v')):=hx.step hg (fun b hb=>.inl (by simp[hb])) (fun k hb=>by
   simp only[List.mem_cons,List.mem_append]at hb;rcases hb with rfl | rfl | rfl | rfl | hb | hb
   ·exact .inl (by simp)
   ·exact .inl (by simp)
   ·exact .inl (by simp)
   ·exact .inl (by simp)
   ·exact .inl (by simp[hb])
   rcases hn k (mem_blk.1 hb)with e | e
   ·exact .inl (by simp[mem_blk.2 e])
   exact .inr e)
  exact h1.step hs (fun b hb=>.inl (by simp at hb;simp[hb])) (fun b hb=>.inl (by
   simp only[List.mem_cons,List.mem_append]at hb ⊢;rcases hb with h | h | h | h | h
   ·exact .inl h
   ·exact .inr (.inl h)
   ·exact .inr (.inr (.inl h))
   ·exact .inr (.inr (.inr (.inl h)))
   exact .inr (.inr (.inr (.inr (.inr h))))))
 refine⟨?_,?_,?_,ho,?_,?_,?_,?_,h.new⟩
 ·rw[List.length_append,List.length_singleton,rMany_snoc,h.read,Option.bind_some];dsimp only;rw[hr];simp
 ·exact(hR.wrote hg hv).wrote hs (by simp;exact h.new.1)
 ·exact(k2.keepW hg m3).keepW hs (by simpa using n3)
 ·rw[List.length_append,List.length_singleton,List.flatMap_append];have e:[y].flatMap TnC.cells=y.cells:=by simp
  rw[e];exact not_own hrow hs (fun x hx=>by simp at hx;subst hx;exact hob)
 ·intro x hx;rcases List.mem_append.1 hx with hx | hx
  ·exact hA x (k4 x hx)
  rw[List.mem_singleton.1 hx];exact hA y hy
 ·have hb:Below w.heap.size w W:=h.keep.trans (hw.below h.keep.size (by have:=h.new.2.1;have:=h.keep.size;simp;omega));exact(hb.trans (hg.below hb.size (fun x hx=>Nat.le_trans h.new.2.2 (hv x hx)))).trans (hs.below (by have:=hb.size;omega) (by have:=h.new;simp;omega))
 have:=rTurn_len hr;have:=h.len;rw[List.length_append,List.length_singleton];omega
theorem rPart_no{C:PkCode}{t:Tn}(h:¬(1<=t.kind/\t.kind<=8))(l:List UInt8):rPart C false t l=none:=by unfold rPart;rw[if_neg (by omega),if_neg (by omega),if_neg (by omega),if_neg (by omega),if_neg (by simp;omega)]
theorem build_tn0(k c:Int)(W:World):(Instr.build 55 #[(0,.int .i64 k),(1,.int .i64 c)]).run prog W=.ok (.agg ((tn0 k c).cells h3Z hdZ).toArray) W:=by kernel_rfl
structure TuI (q p:Nat)(l':List UInt8)(tb:Nat)(k c:Nat)(l2:List UInt8)(wr W:World):Prop where
 wrote:Wrote [p] wr W
 rd:Rd W q p l2
 turn:Blk W tb ((tn0 k c).cells h3Z hdZ).toArray 55
 new:wr.heap.size<=tb
 nums:∃r1,rNum 1 l'=some (k,r1)/\rNum 2 r1=some (c,l2)
theorem TuI.mk'{q p tb k c:Nat}{l' l2 r1:List UInt8}{wr W W':World}(h1:rNum 1 l'=some (k,r1))(h2:rNum 2 r1=some (c,l2))(hw:Wrote [p] wr W)(hr:Rd W q p l2)(hs:Wrote [tb] W W')(ht:Blk W' tb ((tn0 k c).cells h3Z hdZ).toArray 55)(hn:wr.heap.size<=tb)(hq:q<=wr.heap.size):TuI q p l' tb k c l2 wr W':=
 ⟨hw.andNew hs (by simpa using hn),hr.wrote hs (by simp;omega),ht,hn,r1,h1,h2⟩
theorem sc_Parse1(C:PkCode)(a:Option Addr)(n c:Nat)(l:List UInt8)(w0 w:World)(g b B:Nat)(hrow:RowAt w a n c (bs l))(hg:Boxed w g 22 (.slice a n c))(hK0:PaK w0 b B w)(hn:n<=70368744177664)(hT:TzAt w)(hb0:w0.heap.size<=b)(hBb:B≠b)
  (hN:∀s,rScript C false l=some s->NewOK s.cf) (hK:∀s,rScript C false l=some s->∀x:TnC,x.t∈s.ts->KindDo x) (hD:19<=l.length->∀k,ReadDo C k):
  Calls prog 18 #[.pointer (some ⟨g,0,none⟩),.pointer (some ⟨b,0,none⟩)] w fun e w'=>∃o,e=ends o (.tuple #[])/\PaR C l w0 b B o w'/\Boxed w' B 31 (.int .i64 0):=by
 have hmf:∀(fn:Fn)(first cap:Array Value)(w:World),(Instr.makeFunc fn first cap).run prog w=.ok (.func fn first cap) w:=fun _ _ _ _=>rfl;have CM:=hid sc_must;have hll:l.length=n:=by have:=hrow.len;rwa [bs_len]at this
 have fin:Hid (∀o W,PaR C l w0 b B o W->∃o',ends o (.tuple #[])=ends o' (.tuple #[])/\PaR C l w0 b B o' W/\Boxed W B 31 (.int .i64 0)):=hid fun o W h=>⟨o,rfl,h,h.err⟩;have k0:=hg.cell;by_cases h1:(n:Int)<=65536
 case neg=>
  have d1:decide ((n:Int)<=65536)=false:=decide_eq_false h1;have H:=hid (show PaR C l w0 b B (some 3) w from⟨hK0.err,hK0.below,.inl ⟨by omega,rfl,hK0.out⟩⟩);clear h1 hll;go_enter func18,ntmps18;refine wp_scope_straight ?_;go_wp2_with (go_at_call 19;refine(CM _ _ _).mono ?_;rintro e w9 ⟨rfl,rfl⟩)
  exact⟨rfl,some 3,rfl,H.out,H.err⟩
 have d1:decide ((n:Int)<=65536)=true:=decide_eq_true h1;have hl6:=hid (show l.length<=65536 by omega);have CR:=hid (wire_NewReader a n c l w hrow hn);have KW:Hid (∀W,Below w.heap.size w W->PaK w0 b B W/\TzAt W):=hid fun W h=>⟨hK0.wrote (Wrote.of_below (M:=[]) h) (by simp) (by simp) (by simp),hT.below h⟩;have hsw:=hK0.below.size;have hbw:=hid (show b<w.heap.size from hK0.out.lt);have hBw:=hid (show B<w.heap.size from hK0.err.lt);replace hN:=hid hN;replace hK:=hid hK;replace hD:=hid hD;have HG:=hid hg;clear h1 hll hrow hT hK0 hg;go_enter func18,ntmps18;refine wp_scope_straight ?_;go_upto_region 2 with(first
  | (go_at_call 19;refine(CM _ _ _).mono ?_;rintro e w9 ⟨rfl,rfl⟩)
  | (go_at_call 20;refine CR.mono ?_;rintro e w1 ⟨p,rfl,hp,hR,hb1⟩))
 have hpB:=hR.lt;obtain⟨w2,hw2⟩:=gen_of (w1.alloc (.cells #[.pointer (some ⟨p,0,none⟩)] 61));obtain⟨q,hq⟩:=gen_of w1.heap.size;have hx2:Blk w2 q #[.pointer (some ⟨p,0,none⟩)] 61:=by rw[<-hw2,<-hq];exact Blk.new _ _ _
 have hb2:Below w.heap.size w w2:=by rw[<-hw2];exact hb1.alloc (by omega) _
 have hR2:Rd w2 q p l:=by rw[<-hw2,<-hq];exact hR.below (bel_refl.alloc nat_le_rfl _)
 have HB2:=hid hb2;rw[hw2,hq];rw[hq]at hpB;have hf:=enters_of func22 (by kernel_rfl) rfl;have CT:=hid (sc_taken 22 #[.pointer (some ⟨q,0,none⟩)] 2 7 q p q l w2 hf hR2 hx2 (by omega) hx2.lt (by decide) (fun W l1 h1 h2=>sc_P11 W q p q l1 h1 h2));have s2:=hb2.size;replace hx2:=hid hx2;clear hb1 hR hw2 hq hR2 hb2;go_wp2_with fail;refine CT.mono ?_;rintro e w3 ⟨hw3,hx3⟩;have HB3:=hid (HB2.trans (hw3.below (n₀:=w.heap.size) HB2.size (by simp;omega)));have hs3:=HB3.size;rcases hx3 with⟨hno,rfl⟩ | ⟨xs,l1,v,hm,rfl,hR3,ho3⟩
 ·have H:=hid ((KW _ HB3.out).1.bad (C:=C) hl6.out (fun s hs=>by unfold rScript at hs;have e:rMany rTwoI 7 l=none:=hno;rw[e]at hs;cases hs))
  exact⟨rfl,some 390,rfl,H.out,H.err⟩
 obtain⟨hxl,hx7⟩:=rMany_some rTwoI (fun z=>numB 2 z.toNat) (fun l x r h=>rTwoI_some h) 7 l xs l1 hm;obtain⟨z0,z1,z2,z3,z4,z5,z6,rfl⟩:∃z0 z1 z2 z3 z4 z5 z6,xs=[z0,z1,z2,z3,z4,z5,z6]:=by
  match xs,hx7 with
  | [z0,z1,z2,z3,z4,z5,z6],_=>exact⟨z0,z1,z2,z3,z4,z5,z6,rfl⟩
 have hl1:Hid (l.length=14+l1.length):=hid (by rw[hxl,List.length_append,flat_numB];simp)
 obtain⟨av,cv,rfl⟩:=own_slice ho3;have hfl:∀zs:List Int,ivs zs=zs.flatMap iCl:=fun zs=>by
  unfold ivs iCl;induction zs with
  | nil=>rfl
  | cons z zs ih=>rw[List.map_cons,List.flatMap_cons,ih];rfl
 rw[hfl]at ho3;obtain⟨g3,rfl, -,hr0⟩:=own_range iCl (fun _=>rfl) (l:=[z0,z1,z2,z3,z4,z5,z6]) rfl ho3 (k:=0) rfl;have hcells:∀(k:Nat)(z:Int),[z0,z1,z2,z3,z4,z5,z6][k]?=some z->w3.cell? ⟨g3,k,none⟩=some (.int .i64 z):=fun k z hz=>by obtain⟨g,e, -,hr⟩:=own_range iCl (fun _=>rfl) (l:=[z0,z1,z2,z3,z4,z5,z6]) rfl ho3 hz;cases e;have:=hr 0 (.int .i64 z) rfl;simpa using this
 have hg3:g3<w3.heap.size:=cell_lt (hcells 0 z0 rfl);have hg3p:g3≠p:=by have h1:=(ho3.lt g3 rfl).1;have h2:=hx2.lt;omega
 have hx3:=hx2.keepW hw3 (by simp;omega);replace hm:=hid (show rMany rTwoI 7 l=some ([z0,z1,z2,z3,z4,z5,z6],l1)from hm);clear hfl ho3 hxl hx7 hr0 hw3;go_upto_region 3 with fail;have CX:=hid (sc_rtext (hR3.below ((Below.refl _ w3).drew)));go_cut [4]from 17 (fun s4 wx=>∃(ob:Nat)(sec l0:List UInt8),s4=.pointer (some ⟨ob,0,none⟩)/\Hid (rTxt l1=some (sec,l0))/\Hid (PaI C l0 w b B q p ob ⟨z0,z1,z2,z3,z4,z5,sec⟩ z6 [] l0 (.slice none 0 0) wx))
 case first=>
  --BEG
  have rowD:∀(k:Nat)(z:Int),[z0,z1,z2,z3,z4,z5,z6][k]?=some z->w3.drew.cell? ⟨g3,k,none⟩=some (.int .i64 z):=hcells;have xD:Blk w3.drew q #[.pointer (some ⟨p,0,none⟩)] 61:=hx3;refine regionP [(1000,fun w'=>∀(k:Nat)(z:Int),[z0,z1,z2,z3,z4,z5,z6][k]?=some z->w'.cell? ⟨g3,k,none⟩=some (.int .i64 z)),(1000,fun w'=>Blk w' q #[.pointer (some ⟨p,0,none⟩)] 61)] ?_ (by kernel_rfl) ⟨rowD,xD,trivial⟩ fun KQ hKQ=>?_
  ·intro c a d v w h;cases d<;>exact h
  try simp only[PT]
  refine tQ [0,1] ?_;refine loadQ 2 rfl (by kernel_rfl) (by kernel_rfl) rfl rfl 0 rfl (by kernel_rfl) (.int .i64 z0) (fun w' hf=>by(have k0:=hf 0 z0 rfl;go_simp<;>with_reducible rfl)) ?_;simp only[PT];refine tQ [3,4] ?_;refine loadQ 5 rfl (by kernel_rfl) (by kernel_rfl) rfl rfl 0 rfl (by kernel_rfl) (.int .i64 z1) (fun w' hf=>by(have k0:=hf 1 z1 rfl;go_simp<;>with_reducible rfl)) ?_;simp only[PT];refine tQ [6,7] ?_;refine loadQ 8 rfl (by kernel_rfl) (by kernel_rfl) rfl rfl 0 rfl (by kernel_rfl) (.int .i64 z2) (fun w' hf=>by(have k0:=hf 2 z2 rfl;go_simp<;>with_reducible rfl)) ?_;simp only[PT];refine tQ [9,10] ?_;refine loadQ 11 rfl (by kernel_rfl) (by kernel_rfl) rfl rfl 0 rfl (by kernel_rfl) (.int .i64 z3) (fun w' hf=>by(have k0:=hf 3 z3 rfl;go_simp<;>with_reducible rfl)) ?_;simp only[PT];refine tQ [12,13,14] ?_;refine loadQ 15 rfl (by kernel_rfl) (by kernel_rfl) rfl rfl 0 rfl (by kernel_rfl) (.int .i64 z4) (fun w' hf=>by(have k0:=hf 4 z4 rfl;go_simp<;>with_reducible rfl)) ?_;simp only[PT];refine tQ [16,17] ?_;refine loadQ 18 rfl (by kernel_rfl) (by kernel_rfl) rfl rfl 0 rfl (by kernel_rfl) (.int .i64 z5) (fun w' hf=>by(have k0:=hf 5 z5 rfl;go_simp<;>with_reducible rfl)) ?_;simp only[PT];refine loadQ 19 rfl (by kernel_rfl) (by kernel_rfl) rfl rfl 1 rfl (by kernel_rfl) (.agg #[.pointer (some ⟨p,0,none⟩)]) (fun w' hf=>by(exact run_load_blk hf 61 underlying61 rfl (by kernel_rfl))) ?_
  simp only[PT];refine tQ [22,23] ?_;refine loadQ 24 rfl (by kernel_rfl) (by kernel_rfl) rfl rfl 0 rfl (by kernel_rfl) (.int .i64 z6) (fun w' hf=>by(have k0:=hf 6 z6 rfl;go_simp<;>with_reducible rfl)) ?_;simp only[PT];have BD:Below w.heap.size w w3.drew:=HB3.drew;have RD:Hid (Rd w3.drew q p l1):=hid (hR3.below ((Below.refl _ w3).drew));obtain⟨WD,hWD⟩:=gen_of w3.drew;rw[hWD]at rowD xD BD RD CX ⊢;have hsD:=BD.size;refine stepM [20,26] (fun j hj=>?_);have hj:j=20\/j=26:=by simpa using hj
  rcases hj with rfl | rfl
  ·refine⟨⟨_,rfl,by kernel_rfl,fun K hK=>?_⟩⟩;go_simp;refine CX.mono ?_;rintro e w4 (⟨hno,rfl,hw4⟩ | ⟨⟨sec,l0⟩,ht,rfl,hR4,hw4⟩)
   ·refine hKQ.out _ _ _ ?_;have HB4:=BD.trans (hw4.below (n₀:=w.heap.size) hsD (by simp;omega));have H:=(KW _ HB4).1.bad (C:=C) hl6.out (fun s hs=>by unfold rScript at hs;rw[hm.out,Option.bind_some]at hs;dsimp only at hs;rw[hno]at hs;cases hs)
    exact⟨rfl,some 390,rfl,H,H.err⟩
   have HB4:=BD.trans (hw4.below (n₀:=w.heap.size) hsD (by simp;omega));have hs4:=HB4.size;have rw4:∀(k:Nat)(z:Int),[z0,z1,z2,z3,z4,z5,z6][k]?=some z->w4.cell? ⟨g3,k,none⟩=some (.int .i64 z):=fun k z hz=>(cell_keep hw4 (cell_lt (rowD k z hz)) (by simpa using hg3p)).trans (rowD k z hz);have xw4:=xD.keepW hw4 (by simp;omega);refine hK _ _ ⟨⟨fun _=>rw4,fun _=>xw4,trivial⟩,?_⟩;clear hK K;try simp only[PT]
   refine tQ [21,25] ?_;refine sQ 26 fun K hK=>?_;simp only[GO];go_simp;refine hK _ _ ⟨⟨fun _ k z hz=>cell_alloc (rw4 k z hz) _,fun _=>xw4.alloc _,trivial⟩,?_⟩;clear hK K;try simp only[PT]
   refine sQ 27 fun K hK=>?_;simp only[GO];refine wW 30 9 rfl w4.heap.size zSc.cells.toArray (scA ⟨z0,z1,z2,z3,z4,z5,sec⟩ z6 (.slice none 0 0)) rfl rfl (Blk.new _ _ _) rfl rfl (by simp[scA,Value.oneCell']) fun w5 hw5 hr5=>?_;replace hr5:Wrote [w4.heap.size] (w4.alloc (.cells zSc.cells.toArray 30)) w5:=hr5;have hz4:(w4.alloc (.cells zSc.cells.toArray 30)).heap.size=w4.heap.size+1:=by simp
   have HB5:=(HB4.alloc hs4 (.cells zSc.cells.toArray 30)).trans (hr5.below (n₀:=w.heap.size) (by omega) (by simp;omega));have rw5:∀(k:Nat)(z:Int),[z0,z1,z2,z3,z4,z5,z6][k]?=some z->w5.cell? ⟨g3,k,none⟩=some (.int .i64 z):=fun k z hz=>(cell_keep hr5 (by have:=cell_lt (rw4 k z hz);simp at this;omega) (by have:=cell_lt (rw4 k z hz);simp at this;simp;omega)).trans (cell_alloc (rw4 k z hz) _);have xw5:=(xw4.alloc (.cells zSc.cells.toArray 30)).keepW hr5 (by have:=xw4.lt;simp;omega);have R5:=(hR4.below ((Below.refl _ w4).alloc nat_le_rfl (.cells zSc.cells.toArray 30))).wrote hr5 (by have:=hR4.base;simp;omega);refine hK _ _ ⟨⟨fun _=>rw5,fun _=>xw5,trivial⟩,?_⟩;clear hK K;try simp only[PT]
   refine dQ (hKQ.out _ _ _ ?_);have H:Hid (PaI C l0 w b B q p w4.heap.size ⟨z0,z1,z2,z3,z4,z5,sec⟩ z6 [] l0 (.slice none 0 0) w5):=hid ⟨rfl,R5,xw5,hw5,World.ownsRow_nil _ _ _ _,fun x h=>(by cases h),HB5,by simp,by have:=xw4.lt;omega,by omega,by omega⟩;have HTX:=hid ht;clear hKQ KQ rw5 rw4 rowD;go_wp2;go_meet
   case rel=>exact⟨_,sec,l0,rfl,HTX,H⟩
  ·refine⟨⟨_,rfl,by kernel_rfl,fun K hK=>?_⟩⟩;go_simp;have rwA:∀(k:Nat)(z:Int),[z0,z1,z2,z3,z4,z5,z6][k]?=some z->(WD.alloc (.cells zSc.cells.toArray 30)).cell? ⟨g3,k,none⟩=some (.int .i64 z):=fun k z hz=>cell_alloc (rowD k z hz) _;have xwA:=xD.alloc (.cells zSc.cells.toArray 30);have BA:=BD.alloc hsD (.cells zSc.cells.toArray 30);have RA:=RD.below ((Below.refl _ WD).alloc nat_le_rfl (.cells zSc.cells.toArray 30));have oA:Blk (WD.alloc (.cells zSc.cells.toArray 30)) WD.heap.size zSc.cells.toArray 30:=Blk.new _ _ _;have hzA:(WD.alloc (.cells zSc.cells.toArray 30)).heap.size=WD.heap.size+1:=by simp
   refine hK _ _ ⟨⟨fun _=>rwA,fun _=>xwA,trivial⟩,?_⟩;clear hK K;try simp only[PT]
   refine sQ 20 fun K hK=>?_;simp only[GO];go_simp;refine(sc_rtext RA).mono ?_;rintro e w4 (⟨hno,rfl,hw4⟩ | ⟨⟨sec,l0⟩,ht,rfl,hR4,hw4⟩)
   ·refine hKQ.out _ _ _ ?_;have HB4:=BA.trans (hw4.below (n₀:=w.heap.size) BA.size (by simp;omega));have H:=(KW _ HB4).1.bad (C:=C) hl6.out (fun s hs=>by unfold rScript at hs;rw[hm.out,Option.bind_some]at hs;dsimp only at hs;rw[hno]at hs;cases hs)
    exact⟨rfl,some 390,rfl,H,H.err⟩
   have HB4:=BA.trans (hw4.below (n₀:=w.heap.size) BA.size (by simp;omega));have rw4:∀(k:Nat)(z:Int),[z0,z1,z2,z3,z4,z5,z6][k]?=some z->w4.cell? ⟨g3,k,none⟩=some (.int .i64 z):=fun k z hz=>(cell_keep hw4 (cell_lt (rwA k z hz)) (by simpa using hg3p)).trans (rwA k z hz);have xw4:=xwA.keepW hw4 (by simp;omega);have o4:=oA.keepW hw4 (by have:=RD.lt;have:=xD.lt;simp;omega);refine hK _ _ ⟨⟨fun _=>rw4,fun _=>xw4,trivial⟩,?_⟩;clear hK K;try simp only[PT]
   refine tQ [21,25] ?_;refine sQ 27 fun K hK=>?_;simp only[GO];refine wW 30 9 rfl WD.heap.size zSc.cells.toArray (scA ⟨z0,z1,z2,z3,z4,z5,sec⟩ z6 (.slice none 0 0)) rfl rfl o4 rfl rfl (by simp[scA,Value.oneCell']) fun w5 hw5 hr5=>?_;have HB5:=HB4.trans (hr5.below (n₀:=w.heap.size) HB4.size (by simp;omega));have rw5:∀(k:Nat)(z:Int),[z0,z1,z2,z3,z4,z5,z6][k]?=some z->w5.cell? ⟨g3,k,none⟩=some (.int .i64 z):=fun k z hz=>(cell_keep hr5 (cell_lt (rw4 k z hz)) (by have:=cell_lt (rowD k z hz);simp at this;simp;omega)).trans (rw4 k z hz);have xw5:=xw4.keepW hr5 (by have:=xD.lt;simp;omega);have R5:=hR4.wrote hr5 (by have:=RD.base;simp;omega);refine hK _ _ ⟨⟨fun _=>rw5,fun _=>xw5,trivial⟩,?_⟩;clear hK K;try simp only[PT]
   refine dQ (hKQ.out _ _ _ ?_);have H:Hid (PaI C l0 w b B q p WD.heap.size ⟨z0,z1,z2,z3,z4,z5,sec⟩ z6 [] l0 (.slice none 0 0) w5):=hid ⟨rfl,R5,xw5,hw5,World.ownsRow_nil _ _ _ _,fun x h=>(by cases h),HB5,by simp,by have:=xD.lt;omega,by omega,by omega⟩;have HTX:=hid ht;clear hKQ KQ rw5 rw4 rowD rwA;go_wp2;go_meet
   case rel=>exact⟨_,sec,l0,rfl,HTX,H⟩
  --END
 case rest=>
  obtain⟨ob,sec,l0,rfl,ht,hI⟩:=hcut;have HH:=hid (rScript_head (C:=C) hm.out ht.out);have hl0:Hid (16+l0.length<=l.length):=hid (by have:=rTxt_len ht.out;have:=hl1.out;omega);obtain⟨cf,hcf⟩:=gen_of ((⟨z0,z1,z2,z3,z4,z5,sec⟩:CfV):CfV);rw[hcf]at HH hI;have CL:=hid (fun(W:World)(l':List UInt8)(h:Rd W q p l')=>wire_Left h);clear hcf hcells hx3 CX;clear hR3 HB3 hs3;go_wp2_with fail;refine wp_label ?_;go_wp2_with fail
  go_loopw [43] (fun _ wr=>∃(ts:List TnC)(l':List UInt8)(v:Value),Hid (PaI C l0 w b B q p ob cf z6 ts l' v wr)) (fun _ wr=>rdLen (wr.cell? ⟨p,0,none⟩))
  case atStart=>exact⟨[],l0,_,hI⟩
  case round=>
   obtain⟨ts,l',v,hJ⟩:=hrel;have kq:wr.cell? ⟨q,0,none⟩=some (.pointer (some ⟨p,0,none⟩)):=hJ.out.rdr.cell 0;have CLJ:=hid (CL wr l' hJ.out.rd);rcases Nat.eq_zero_or_pos l'.length with hz | hpos
   ·have d0:((l'.length:Int)==0)=true:=by simp[hz]
    have hnil:l'=[]:=List.length_eq_zero_iff.1 hz;have hall:=(rAll_rMany (rTurn C false) (fun l x r h=>by have:=rTurn_len h;omega) ts.length l0.length l0 l' _ hJ.out.read nat_le_rfl).1 hnil;obtain⟨av,cv,rfl⟩:=own_slice hJ.out.row;obtain⟨s,hs⟩:=gen_of ((⟨cf,z6,⟨av,ts.length,cv⟩,ts⟩:ScC):ScC);have hsc:Hid (rScript C false l=some s.sc):=hid (by rw[HH.out,hall,<-hs];rfl);have hsA:Hid (scA cf z6 (.slice av ts.length cv)=s.cells.toArray):=hid (by rw[<-hs];rfl);have hin:Hid (s.In wr):=hid (by rw[<-hs];exact⟨ls_of_own (f:=TnC.cells) (size:=30) (fun x=>rfl) hJ.out.row rfl,fun x hx=>(hJ.out.each x hx).inn⟩)
    have hbq:b<q:=by have:=hJ.out.new;have:=hbw.out;omega
    have hBq:B<q:=by have:=hJ.out.new;have:=hBw.out;omega
    have hin6:Hid (∀w5 w6,Below wr.heap.size wr w5->Wrote [b,B] w5 w6->s.In w6):=hid fun w5 w6 h5 h6=>by rw[<-hs];refine⟨ls_of_own (f:=TnC.cells) (size:=30) (fun x=>rfl) (not_own (ownsRow_below hJ.out.row h5) h6 (fun y hy hm=>?_)) rfl,fun x hx=>(((hJ.out.each x hx).step (Wrote.of_below (M:=[]) h5) (fun k hk=>by cases hk) (fun k hk=>.inl hk)).step h6 (fun k hk=>.inl (by simp at hk;rcases hk with rfl | rfl<;>simp)) (fun k hk=>.inl hk)).inn⟩;have:=(hJ.out.row.lt y (mem_blk.1 hm)).1;simp at hy;omega
    clear hBq;clear hbq;have hso:=hJ.out.out;rw[hsA]at hso;have CR:=hid (sc_right s 390 wr hin.out (KW _ hJ.out.keep).2 (hN _ hsc.out) (fun x hx=>hK.out _ hsc.out x (List.mem_map_of_mem hx)));obtain⟨sv,hsv⟩:=gen_of s.cells.toArray;have is:(prog.info? 30).map (·.size)=some sv.size:=by rw[<-hsv];exact(by kernel_rfl:(prog.info? 30).map (·.size)=some 9)
    have HSO:=hid hso;rw[hsv]at hso CR HSO;have hsz:sv.size=9:=by rw[<-hsv];rfl
    have hone:Hid (∀u∈sv.toList,u.oneCell'=true):=hid (by rw[<-hsv];simp[ScC.cells,Value.oneCell']);replace hsv:=hid hsv;replace hsz:=hid hsz;clear hs hnil hz hall;go_wp2_with (first
     | (go_at_call 25;refine CLJ.mono ?_;rintro e w4 ⟨rfl,rfl⟩)
     | (refine wL 30 rfl rfl hso underlying30 ?_ rfl rfl is))
    refine CR.mono ?_;rintro e w5 ⟨r,hr,rfl,hb5⟩;have HB5:=hid (hJ.out.keep.trans (hb5.mono hJ.out.keep.size));have KW5:=(KW _ HB5.out).1;have hso5:=HSO.below hb5;have hin5:=hid (hin.below hb5);cases r with
    | false=>
     have H:=hid (KW5.bad (C:=C) hl6.out (fun s' hs' h=>by rw[hsc]at hs';cases hs';have:=hr.2 h;simp at this))
     exact⟨rfl,some 390,rfl,H.out,H.err⟩
    | true=>
     have HB50:=hid hb5;have hr':Hid (rightS s.sc):=hid (by simpa using hr);have hob5:=KW5.out;have hbl:=hid (show w0.heap.size<=b from hb0);have hBb':=hid hBb;have HE5:=hid KW5.err;have HK5:=hid KW5.below;clear hr hb5 KW5 hso;go_wp2_with (first
      | (refine wL 30 rfl rfl hso5 underlying30 ?_ rfl rfl is)
      | (refine wS 30 9 rfl b zSc.cells.toArray sv rfl rfl hob5 hsz.out rfl hone.out ?_;intro w6 hw6 hr6))
     have H:PaR C l w0 b B none w6:=⟨hr6.boxed (by simpa using hBb'.out) HE5.out,HK5.trans (hr6.below (n₀:=w0.heap.size) HK5.size (by simp;exact hbl.out)),.inr (.inr ⟨hl6.out,s,hsc.out,hr'.out,rfl,by rw[hsv.out];exact hw6,fun W' hW'=>hin6.out _ _ HB50.out ((hr6.sub (by simp)).trans hW')⟩)⟩
     go_end0
     exact⟨none,rfl,H,H.err⟩
   have d0:((l'.length:Int)==0)=false:=by simp;intro h;simp[h]at hpos
   have hbad:Hid (rTurn C false l'=none->∀s,rScript C false l=some s->¬rightS s):=hid fun h s hs=>by have h1:=(rAll_rMany (rTurn C false) (fun l x r h=>by have:=rTurn_len h;omega) ts.length l0.length l0 l' _ hJ.out.read nat_le_rfl).2 (by intro e;subst e;simp at hpos) h;rw[HH.out,h1]at hs;cases hs
   go_upto_region 5 with(go_at_call 25;refine CLJ.mono ?_;rintro e w4 ⟨rfl,rfl⟩)
   have hqp:p<q:=hJ.out.rd.lt;have hqw:q<wr.heap.size:=hJ.out.rdr.lt;go_cut [5]from 47 to 70 (fun s5 wx=>∃(tb k c:Nat)(l2:List UInt8),s5=.pointer (some ⟨tb,0,none⟩)/\Hid (TuI q p l' tb k c l2 wr wx))
   case first=>
    --BEG
    have xD:Blk wr.drew q #[.pointer (some ⟨p,0,none⟩)] 61:=hJ.out.rdr;have BD:Below w.heap.size w wr.drew:=hJ.out.keep.drew;have RD:Rd wr.drew q p l':=hJ.out.rd.below ((Below.refl _ wr).drew);have wD:Wrote [p] wr wr.drew:=Wrote.of_below ((Below.refl _ wr).drew);have hpw:=hJ.out.new.2.1;refine regionP [(1000,fun w'=>Blk w' q #[.pointer (some ⟨p,0,none⟩)] 61)] ?_ (by kernel_rfl) ⟨xD,trivial⟩ fun KQ hKQ=>?_
    ·intro c a d v w h;cases d<;>exact h
    try simp only[PT]
    refine loadQ 0 rfl (by kernel_rfl) (by kernel_rfl) rfl rfl 0 rfl (by kernel_rfl) (.agg #[.pointer (some ⟨p,0,none⟩)]) (fun w' hf=>by(exact run_load_blk hf 61 underlying61 rfl (by kernel_rfl))) ?_;simp only[PT];refine loadQ 2 rfl (by kernel_rfl) (by kernel_rfl) rfl rfl 0 rfl (by kernel_rfl) (.agg #[.pointer (some ⟨p,0,none⟩)]) (fun w' hf=>by(exact run_load_blk hf 61 underlying61 rfl (by kernel_rfl))) ?_;simp only[PT];obtain⟨WD,hWD⟩:=gen_of wr.drew;have hsD:wr.heap.size=WD.heap.size:=by rw[<-hWD];rfl
    rw[hWD]at xD BD RD wD ⊢;refine stepM [1,5] (fun j hj=>?_);have hj:j=1\/j=5:=by simpa using hj
    rcases hj with rfl | rfl
    ·refine⟨⟨_,rfl,by kernel_rfl,fun K hK=>?_⟩⟩;go_simp;refine(sc_number RD 1 (by decide) (by decide)).mono ?_;rintro e wa (⟨hno,rfl,hwa⟩ | ⟨⟨k1,r1⟩,hx1,rfl,Ra,hwa⟩)
     ·refine hKQ.out _ _ _ ?_;have hb:=BD.trans (hwa.below (n₀:=w.heap.size) BD.size (by simp;omega));have H:=(KW _ hb).1.bad (C:=C) hl6.out (hbad (by unfold rTurn;rw[hno];rfl))
      exact⟨rfl,some 390,rfl,H,H.err⟩
     dsimp only at Ra ⊢;have Ba:=BD.trans (hwa.below (n₀:=w.heap.size) BD.size (by simp;omega));have xa:=xD.keepW hwa (by simp;omega);have fa:=wD.trans hwa;refine hK _ _ ⟨⟨fun _=>xa,trivial⟩,?_⟩;clear hK K;try simp only[PT]
     refine stepM [3,5] (fun j hj=>?_);have hj:j=3\/j=5:=by simpa using hj
     rcases hj with rfl | rfl
     ·refine⟨⟨_,rfl,by kernel_rfl,fun K hK=>?_⟩⟩;go_simp;refine(sc_number Ra 2 (by decide) (by decide)).mono ?_;rintro e wb (⟨hno,rfl,hwb⟩ | ⟨⟨k2,r2⟩,hx2,rfl,Rb,hwb⟩)
      ·refine hKQ.out _ _ _ ?_;have hb:=Ba.trans (hwb.below (n₀:=w.heap.size) Ba.size (by simp;omega));have H:=(KW _ hb).1.bad (C:=C) hl6.out (hbad (by unfold rTurn;rw[hx1,Option.bind_some];dsimp only;rw[hno];rfl))
       exact⟨rfl,some 390,rfl,H,H.err⟩
      dsimp only at Rb ⊢;have Bb:=Ba.trans (hwb.below (n₀:=w.heap.size) Ba.size (by simp;omega));have xb:=xa.keepW hwb (by simp;omega);have fb:=fa.trans hwb;refine hK _ _ ⟨⟨fun _=>xb,trivial⟩,?_⟩;clear hK K;try simp only[PT]
      refine buildQ 4 #[(0,.int .i64 (k1:Int)),(1,.int .i64 (k2:Int))] _ rfl rfl rfl (build_tn0 _ _) ?_;try simp only[PT]
      refine sQ 5 fun K hK=>?_;simp only[GO];go_simp;have xc:=xb.alloc (.cells zT 55);have Bc:=Bb.alloc Bb.size (.cells zT 55);have Rc:=Rb.below ((Below.refl _ wb).alloc nat_le_rfl (.cells zT 55));have fc:=fb.trans (Wrote.alloc [p] wb (.cells zT 55));have oc:Blk (wb.alloc (.cells zT 55)) wb.heap.size zT 55:=Blk.new _ _ _;have sc:wr.heap.size<=wb.heap.size:=fb.size;refine hK _ _ ⟨⟨fun _=>xc,trivial⟩,?_⟩;clear hK K;try simp only[PT]
      refine sQ 6 fun K hK=>?_;simp only[GO];refine wW 55 30 rfl wb.heap.size zT ((tn0 k1 k2).cells h3Z hdZ).toArray rfl rfl oc rfl rfl (by simp[Tn.cells,Value.oneCell']) fun wz hwz hrz=>?_;have hxz:=xc.keepW hrz (by simp;omega);refine hK _ _ ⟨⟨fun _=>hxz,trivial⟩,?_⟩;clear hK K;try simp only[PT]
      refine dQ (hKQ.out _ _ _ ?_);have HT:Hid (TuI q p l' wb.heap.size k1 k2 r2 wr wz):=hid (TuI.mk' hx1 hx2 fc Rc hrz hwz sc (by omega));clear hKQ KQ;go_wp2;go_meet
      case rel=>exact⟨_,_,_,_,rfl,HT⟩
     refine⟨⟨_,rfl,by kernel_rfl,fun K hK=>?_⟩⟩;go_simp;have xb:=xa.alloc (.cells zT 55);have Bb:=Ba.alloc Ba.size (.cells zT 55);have Rb:=Ra.below ((Below.refl _ wa).alloc nat_le_rfl (.cells zT 55));have fb:=fa.trans (Wrote.alloc [p] wa (.cells zT 55));have o2:Blk (wa.alloc (.cells zT 55)) wa.heap.size zT 55:=Blk.new _ _ _;have sb:wr.heap.size<=wa.heap.size:=fa.size;refine hK _ _ ⟨⟨fun _=>xb,trivial⟩,?_⟩;clear hK K;try simp only[PT]
     refine sQ 3 fun K hK=>?_;simp only[GO];go_simp;refine(sc_number Rb 2 (by decide) (by decide)).mono ?_;rintro e wc (⟨hno,rfl,hwc⟩ | ⟨⟨k2,r2⟩,hx2,rfl,Rc,hwc⟩)
     ·refine hKQ.out _ _ _ ?_;have hb:=Bb.trans (hwc.below (n₀:=w.heap.size) Bb.size (by simp;omega));have H:=(KW _ hb).1.bad (C:=C) hl6.out (hbad (by unfold rTurn;rw[hx1,Option.bind_some];dsimp only;rw[hno];rfl))
      exact⟨rfl,some 390,rfl,H,H.err⟩
     dsimp only at Rc ⊢;have Bc:=Bb.trans (hwc.below (n₀:=w.heap.size) Bb.size (by simp;omega));have xc:=xb.keepW hwc (by simp;omega);have fc:=fb.trans hwc;have oc:=o2.keepW hwc (by have:=Ra.lt;have:=Ra.base;simp;omega);refine hK _ _ ⟨⟨fun _=>xc,trivial⟩,?_⟩;clear hK K;try simp only[PT]
     refine buildQ 4 #[(0,.int .i64 (k1:Int)),(1,.int .i64 (k2:Int))] _ rfl rfl rfl (build_tn0 _ _) ?_;try simp only[PT]
     refine sQ 6 fun K hK=>?_;simp only[GO];refine wW 55 30 rfl wa.heap.size zT ((tn0 k1 k2).cells h3Z hdZ).toArray rfl rfl oc rfl rfl (by simp[Tn.cells,Value.oneCell']) fun wz hwz hrz=>?_;have hxz:=xc.keepW hrz (by simp;omega);refine hK _ _ ⟨⟨fun _=>hxz,trivial⟩,?_⟩;clear hK K;try simp only[PT]
     refine dQ (hKQ.out _ _ _ ?_);have HT:Hid (TuI q p l' wa.heap.size k1 k2 r2 wr wz):=hid (TuI.mk' hx1 hx2 fc Rc hrz hwz sb (by omega));clear hKQ KQ;go_wp2;go_meet
     case rel=>exact⟨_,_,_,_,rfl,HT⟩
    ·refine⟨⟨_,rfl,by kernel_rfl,fun K hK=>?_⟩⟩;go_simp;have xa:=xD.alloc (.cells zT 55);have Ba:=BD.alloc BD.size (.cells zT 55);have Ra:=RD.below ((Below.refl _ WD).alloc nat_le_rfl (.cells zT 55));have fa:=wD.trans (Wrote.alloc [p] WD (.cells zT 55));have oa:Blk (WD.alloc (.cells zT 55)) WD.heap.size zT 55:=Blk.new _ _ _;have sa:wr.heap.size<=WD.heap.size:=wD.size;refine hK _ _ ⟨⟨fun _=>xa,trivial⟩,?_⟩;clear hK K;try simp only[PT]
     refine sQ 1 fun K hK=>?_;simp only[GO];go_simp;refine(sc_number Ra 1 (by decide) (by decide)).mono ?_;rintro e wb (⟨hno,rfl,hwb⟩ | ⟨⟨k1,r1⟩,hx1,rfl,Rb,hwb⟩)
     ·refine hKQ.out _ _ _ ?_;have hb:=Ba.trans (hwb.below (n₀:=w.heap.size) Ba.size (by simp;omega));have H:=(KW _ hb).1.bad (C:=C) hl6.out (hbad (by unfold rTurn;rw[hno];rfl))
      exact⟨rfl,some 390,rfl,H,H.err⟩
     dsimp only at Rb ⊢;have Bb:=Ba.trans (hwb.below (n₀:=w.heap.size) Ba.size (by simp;omega));have xb:=xa.keepW hwb (by simp;omega);have fb:=fa.trans hwb;have o2:=oa.keepW hwb (by have:=RD.lt;have:=RD.base;simp;omega);refine hK _ _ ⟨⟨fun _=>xb,trivial⟩,?_⟩;clear hK K;try simp only[PT]
     refine sQ 3 fun K hK=>?_;simp only[GO];go_simp;refine(sc_number Rb 2 (by decide) (by decide)).mono ?_;rintro e wc (⟨hno,rfl,hwc⟩ | ⟨⟨k2,r2⟩,hx2,rfl,Rc,hwc⟩)
     ·refine hKQ.out _ _ _ ?_;have hb:=Bb.trans (hwc.below (n₀:=w.heap.size) Bb.size (by simp;omega));have H:=(KW _ hb).1.bad (C:=C) hl6.out (hbad (by unfold rTurn;rw[hx1,Option.bind_some];dsimp only;rw[hno];rfl))
      exact⟨rfl,some 390,rfl,H,H.err⟩
     dsimp only at Rc ⊢;have Bc:=Bb.trans (hwc.below (n₀:=w.heap.size) Bb.size (by simp;omega));have xc:=xb.keepW hwc (by simp;omega);have fc:=fb.trans hwc;have o3:=o2.keepW hwc (by have:=RD.lt;have:=RD.base;simp;omega);refine hK _ _ ⟨⟨fun _=>xc,trivial⟩,?_⟩;clear hK K;try simp only[PT]
     refine buildQ 4 #[(0,.int .i64 (k1:Int)),(1,.int .i64 (k2:Int))] _ rfl rfl rfl (build_tn0 _ _) ?_;try simp only[PT]
     refine sQ 6 fun K hK=>?_;simp only[GO];refine wW 55 30 rfl WD.heap.size zT ((tn0 k1 k2).cells h3Z hdZ).toArray rfl rfl o3 rfl rfl (by simp[Tn.cells,Value.oneCell']) fun wz hwz hrz=>?_;have hxz:=xc.keepW hrz (by simp;omega);refine hK _ _ ⟨⟨fun _=>hxz,trivial⟩,?_⟩;clear hK K;try simp only[PT]
     refine dQ (hKQ.out _ _ _ ?_);have HT:Hid (TuI q p l' WD.heap.size k1 k2 r2 wr wz):=hid (TuI.mk' hx1 hx2 fc Rc hrz hwz sa (by omega));clear hKQ KQ;go_wp2;go_meet
     case rel=>exact⟨_,_,_,_,rfl,HT⟩
    --END
   case rest=>
    obtain⟨tb,k,c,l2,rfl,hT⟩:=hcut;obtain⟨wd,hwd⟩:∃W,W=wc:=⟨_,rfl⟩;subst hwd;have hb50:=hid (hJ.out.keep.trans (hT.out.wrote.below (n₀:=w.heap.size) hJ.out.keep.size (by have:=hJ.out.new.2.1;simp;omega)));have hb5:=hid (Below.refl wd.heap.size wd);obtain⟨x,hx⟩:=gen_of ((⟨tn0 k c,h3Z,hdZ⟩:TnC):TnC);obtain⟨xc,hxc⟩:=gen_of x.cells;obtain⟨kd,hkd⟩:=gen_of (x.t.kind:Int);have hwd':Hid (Blk wd tb xc.toArray 55):=hid (by rw[<-hxc,<-hx];exact hT.out.turn);have kc:Hid (∀W,Blk W tb xc.toArray 55->W.cell? ⟨tb,0,none⟩=some (.int .i64 kd)):=hid fun W hb=>by rw[hb.cell,<-hxc,<-hkd];rfl
    have hxt:Hid (x.t=tn0 k c):=hid (by rw[<-hx]);replace hkd:=hid hkd;replace hxc:=hid hxc;replace hx:=hid hx;clear CLJ;go_upto_region 6 with fail;go_cut [6,7]from 52 to 70 (fun s6 s7 wx=>∃(kb:Nat)(g1 g2 g3 g4:Value)(is:Bool),s6=.pointer (some ⟨kb,0,none⟩)/\s7=.bool is/\Hid (KAt wd tb xc.toArray x kb g1 g2 g3 g4 is wx))
    case first=>
     have BW5:Below wd.heap.size wd wd.drew:=hb5.drew;have tW5:Blk wd.drew tb xc.toArray 55:=hwd'.out;refine regionQ [(1000,fun w'=>Blk w' tb xc.toArray 55)] (by kernel_rfl) ⟨tW5,trivial⟩ fun KQ hKQ=>?_;try simp only[PT]
     obtain⟨W5,hW5⟩:=gen_of wd.drew;rw[hW5]at BW5 tW5 ⊢;refine tQ [1] ?_;refine loadQ 2 rfl (by kernel_rfl) (by kernel_rfl) rfl rfl 0 rfl (by kernel_rfl) (.int .i64 kd) (fun w' hf=>by(have k0:=kc _ hf;go_simp<;>with_reducible rfl)) ?_;simp only[PT];refine stepM [0,7] (fun j hj=>?_);have hj:j=0\/j=7:=by simpa using hj
     rcases hj with rfl | rfl
     ·refine⟨⟨_,rfl,by kernel_rfl,fun K hK=>?_⟩⟩;go_simp;refine(sc_kinds _).mono ?_;rintro e w6 ⟨m,c,rfl,hm,hc,hb6⟩;have ht6:=tW5.below hb6;obtain⟨g1,g2,g3,g4,hg,hone,hsome⟩:=kindG_agg c kd;have hB6:=BW5.trans (hb6.mono BW5.size);refine hK _ _ ⟨⟨fun _=>ht6,trivial⟩,?_⟩;clear hK K;try simp only[PT]
      refine atR_more [(1000,fun w'=>Blk w' tb xc.toArray 55),(1000,fun w'=>IM .i64 w' m (kindG c))] (by simp) ⟨fun _=>ht6,fun _=>hm,trivial⟩ ?_;refine lookQ 3 rfl (by kernel_rfl) (by kernel_rfl) rfl rfl rfl 1 rfl (by kernel_rfl) (.tuple #[.agg #[g1,g2,g3,g4],.bool (kindG c kd).isSome]) (fun w' hf=>(look_kd hf kd).trans (by rw[hg])) ?_;try simp only[PT]
      refine tQ [4,5,6] ?_;obtain⟨is,his⟩:=gen_of ((kindG c kd).isSome);rw[his];refine sQ 7 fun K hK=>?_;simp only[GO];go_simp;refine hK _ _ ⟨⟨fun _=>ht6.alloc _,fun _=>hm.alloc _,trivial⟩,?_⟩;clear hK K;try simp only[PT]
      refine sQ 8 fun K hK=>?_;simp only[GO];refine wW 71 4 rfl w6.heap.size zKd #[g1,g2,g3,g4] rfl rfl (Blk.new _ _ _) rfl rfl hone fun w7 hw7 hr7=>?_;replace hr7:Wrote [w6.heap.size] (w6.alloc (.cells zKd 71)) w7:=hr7;have hs6:=hB6.size;have hz6:(w6.alloc (.cells zKd 71)).heap.size=w6.heap.size+1:=by simp
      have hb7:=(hB6.alloc hB6.size (.cells zKd 71)).trans (hr7.below (by omega) (by simp;omega));have ht7:=(ht6.alloc (.cells zKd 71)).keepW hr7 (by have:=ht6.lt;simp;omega);have hc7:=hr7.boxed (by have:=hc.lt;simp;omega) (hc.alloc (.cells zKd 71));have hm7:=(hm.alloc (.cells zKd 71)).wrote hr7 (by have:=hm.lt;simp;omega);refine hK _ _ ⟨⟨fun _=>ht7,fun _=>hm7,trivial⟩,?_⟩;clear hK K;try simp only[PT]
      refine tQ [9] ?_;refine dQ (hKQ.out _ _ ?_);clear hKQ KQ;have hR:=hid (show KAt wd tb xc.toArray x w6.heap.size g1 g2 g3 g4 is w7 from⟨hb7,ht7,hw7,fun h=>kindG_none (by rw[hkd.out];rw[<-his]at h;exact Option.isSome_eq_false_iff.1 h |>Option.isNone_iff_eq_none.1),fun h=>⟨c,by rw[hkd.out];exact hsome (by rw[his,h]),hc7⟩⟩);go_wp2;go_meet
      case rel=>exact⟨_,_,_,_,_,_,rfl,rfl,hR⟩
     refine⟨⟨_,rfl,by kernel_rfl,fun K hK=>?_⟩⟩;go_simp;refine hK _ _ ⟨⟨fun _=>tW5.alloc _,trivial⟩,?_⟩;clear hK K;try simp only[PT]
     refine sQ 0 fun K hK=>?_;simp only[GO];go_simp;refine(sc_kinds _).mono ?_;rintro e w6 ⟨m,c,rfl,hm,hc,hb6⟩;have ht6:=(tW5.alloc (.cells zKd 71)).below hb6;have hk6:=(Blk.new W5 zKd 71).below hb6;obtain⟨g1,g2,g3,g4,hg,hone,hsome⟩:=kindG_agg c kd;have hs5:=BW5.size;have hz5:(W5.alloc (.cells zKd 71)).heap.size=W5.heap.size+1:=by simp
     have hB6:=(BW5.alloc hs5 (.cells zKd 71)).trans (hb6.mono (by simp;omega));have hb6s:W5.heap.size+1<=w6.heap.size:=by have:=hb6.size;simpa using this
     refine hK _ _ ⟨⟨fun _=>ht6,trivial⟩,?_⟩;clear hK K;try simp only[PT]
     refine atR_more [(1000,fun w'=>Blk w' tb xc.toArray 55),(1000,fun w'=>IM .i64 w' m (kindG c))] (by simp) ⟨fun _=>ht6,fun _=>hm,trivial⟩ ?_;refine lookQ 3 rfl (by kernel_rfl) (by kernel_rfl) rfl rfl rfl 1 rfl (by kernel_rfl) (.tuple #[.agg #[g1,g2,g3,g4],.bool (kindG c kd).isSome]) (fun w' hf=>(look_kd hf kd).trans (by rw[hg])) ?_;try simp only[PT]
     refine tQ [4,5,6] ?_;obtain⟨is,his⟩:=gen_of ((kindG c kd).isSome);rw[his];refine sQ 8 fun K hK=>?_;simp only[GO];have hne:m≠W5.heap.size:=fun h=>by obtain⟨es,cl,h1, -⟩:=hm;have h2:w6.heap[W5.heap.size]?=_:=hk6;rw[h,h2]at h1;cases h1
     have hnc:c≠W5.heap.size:=fun h=>by have h1:w6.heap[c]?=_:=hc;have h2:w6.heap[W5.heap.size]?=_:=hk6;rw[h,h2]at h1;cases h1
     refine wW 71 4 rfl W5.heap.size zKd #[g1,g2,g3,g4] rfl rfl hk6 rfl rfl hone fun w7 hw7 hr7=>?_;have hb7:=hB6.trans (hr7.below (by have:=hB6.size;omega) (by simp;omega));have ht7:=ht6.keepW hr7 (by have:=tW5.lt;simp;omega);have hc7:=hr7.boxed (by simpa using hnc) hc;have hm7:=hm.wrote hr7 (by simpa using hne);refine hK _ _ ⟨⟨fun _=>ht7,fun _=>hm7,trivial⟩,?_⟩;clear hK K;try simp only[PT]
     refine tQ [9] ?_;refine dQ (hKQ.out _ _ ?_);clear hKQ KQ;have hR:=hid (show KAt wd tb xc.toArray x W5.heap.size g1 g2 g3 g4 is w7 from⟨hb7,ht7,hw7,fun h=>kindG_none (by rw[hkd.out];rw[<-his]at h;exact Option.isSome_eq_false_iff.1 h |>Option.isNone_iff_eq_none.1),fun h=>⟨c,by rw[hkd.out];exact hsome (by rw[his,h]),hc7⟩⟩);go_wp2;go_meet
     case rel=>exact⟨_,_,_,_,_,_,rfl,rfl,hR⟩
    case rest=>
     obtain⟨kb,g1,g2,g3',g4,is,rfl,rfl,hK⟩:=hcut;obtain⟨we,hwe⟩:∃W,W=wc:=⟨_,rfl⟩;subst hwe;have HB6:=hid (hb50.trans (hK.below.mono hb50.size));have hxk:Hid (x.t.kind=k):=hid (by rw[hxt];rfl);cases is with
     | false=>
      have hno:Hid (∀s,rScript C false l=some s->¬rightS s):=hid (hbad (by
       obtain⟨r1,h1,h2⟩:=hT.out.nums;unfold rTurn;rw[h1,Option.bind_some];dsimp only;rw[h2,Option.bind_some];exact rPart_no (by have h3:=hK.none rfl;rw[hxk]at h3;exact h3) _))
      have H:=hid ((KW _ HB6.out).1.bad (C:=C) hl6.out hno.out);clear hb5;go_wp2_with (go_at_call 19;refine(CM _ _ _).mono ?_;rintro e w9 ⟨rfl,rfl⟩);exact⟨rfl,some 390,rfl,H.out,H.err⟩
     | true=>
      obtain⟨c',hkg,hbx⟩:=hK.some rfl;rw[hxk]at hkg;obtain⟨r1,hn1,hn2⟩:=hT.out.nums;have h19:19<=l.length:=by have e1:=rNum_len hn1;have e2:=rNum_len hn2;have e3:=hJ.out.len;have e4:=hl0.out;omega
      obtain⟨f1,c1,f2,c2,f3,c3,f4,c4,hv,hf4,hrd⟩:=hD h19 k c' _ hkg;simp only[Value.agg.injEq,Array.mk.injEq,List.cons.injEq,and_true]at hv;obtain⟨rfl,rfl,rfl,rfl⟩:=hv;have k3:we.cell? ⟨kb,3,none⟩=some (fnV f4 c4):=hK.kind.cell 3;have xqE:=(hJ.out.rdr.keepW hT.out.wrote (by simp;omega)).below hK.below;have tE:Blk we tb ((tn0 k c).cells h3Z hdZ).toArray 55:=by have:=hK.turn;rw[<-hxc.out,<-hx.out]at this;exact this
      have CR4:=hid (hrd we q p l2 tb c (hT.out.rd.below hK.below) tE (by have:=hT.out.new;omega));have hrt:=hid (show rTurn C false l'=rPart C false (tn0 k c) l2 by unfold rTurn;rw[hn1,Option.bind_some];dsimp only;rw[hn2,Option.bind_some];rfl)
      unfold fnC at hf4;unfold fnV at k3;have hl2:=hid (show l2.length<l'.length by have e1:=rNum_len hn1;have e2:=rNum_len hn2;omega)
      have htn:=hT.out.new;clear hb5 hrd hn1 hn2 h19 hbx hkg tE;go_wp2_with (first
       | (go_at_call 19;refine(CM _ _ _).mono ?_;rintro e w9 ⟨rfl,rfl⟩)
       | (refine wL 61 rfl rfl xqE underlying61 ?_))
      refine CR4.mono ?_;rintro e w7 ⟨hw7,hx7⟩;have HB7:=hid (HB6.trans (hw7.below (n₀:=w.heap.size) HB6.size (by have:=hJ.out.new.2.1;have:=hJ.out.keep.size;simp;omega)));rcases hx7 with⟨hno,rfl⟩ | ⟨y,l3,hyr,rfl,hR7,hy7,hyn⟩
      ·have H:=hid ((KW _ HB7.out).1.bad (C:=C) hl6.out (hbad (by rw[hrt.out,hno])));exact⟨rfl,some 390,rfl,H.out,H.err⟩
      have hWt:Hid (Wrote [p,tb] wr w7):=hid (((hT.out.wrote.sub (by simp)).trans (Wrote.of_below hK.below)).trans hw7);obtain⟨j1,j2,j3,j4,n1,n2,n3,m1,m2,m3⟩:=hJ.out.kept hWt.out htn;obtain⟨av,cv,rfl⟩:=own_slice hJ.out.row;have hyM:Hid (InN w7 y (b::B::p::ob::blk (.slice av ts.length cv))):=hid (hyn _ (fun k hb=>by
       have z1:wr.heap.size<=we.heap.size:=Nat.le_trans hT.out.wrote.size hK.below.size;simp only[List.mem_cons]at hb;rcases hb with rfl | rfl | rfl | rfl | hb
       ·have:=(KW _ hJ.out.keep).1.out.lt;omega
       ·have:=(KW _ hJ.out.keep).1.err.lt;omega
       ·omega
       ·have:=hJ.out.out.lt;omega
       have:=(hJ.out.row.lt k (mem_blk.1 hb)).2;omega))
      have kv:w7.cell? ⟨ob,8,none⟩=some (.slice av ts.length cv):=j1.cell 8;have hm6:Hid (ts.length<=65536):=hid (by have:=hJ.out.len;have:=hl0.out;have:=hl6.out;omega);have oy:=hid (Tn.one y.t y.h y.hp);have hB7:=HB7.size;have hq7:q<=w7.heap.size:=by have:=hWt.size;omega
      obtain⟨yc,hyc⟩:=gen_of y.cells;have sy:yc.length=30:=by rw[<-hyc];rfl
      have oy:Hid (∀u∈yc,u.oneCell'=true):=hid (by rw[<-hyc];exact fun u hu=>oy.out u (by simpa[TnC.cells]using hu));rw[hyc]at hy7;have iy:(prog.info? 55).map (·.size)=some yc.toArray.size:=by rw[List.size_toArray,sy];exact(by kernel_rfl:(prog.info? 55).map (·.size)=some 30)
      have j1':=hid (j1.alloc (.cells yc.toArray 55));have j3':=hid (ownsRow_below j3 ((Below.refl _ w7).alloc nat_le_rfl (.cells yc.toArray 55)));have g7:=hid (Blk.new w7 yc.toArray 55);have sy':=hid sy;replace hm6:=hid hm6.out;have HQ7:=hid hq7;have hm2:=hid m2;clear j1 j2 j3 j4 m1 m2 m3 n1 n2 n3 hyn hw7 sy;go_wp2_with (first
       | (refine wL 55 rfl rfl hy7 underlying55 ?_ rfl rfl iy)
       | (refine wpList_plain rfl fun _ hK=>wp_slice_one _ rfl eTurn (by decide) (by decide) (.agg yc.toArray) rfl (by rw[show(Value.agg yc.toArray).cells=yc.toArray from rfl,List.size_toArray,sy'.out]) (hK _ _ ?_))
       | (at_builtin;refine append_grp rfl _ _ rfl eTurn (by decide) q (.slice av ts.length cv) ts.length (ts.flatMap TnC.cells) rfl j3'.out w7.heap.size yc 55 rfl g7.out sy'.out oy.out (by have:=hm6.out;omega) (by have:=hm6.out;omega) (by have:=HQ7.out;simp;omega) ?_;intro v' w9 how9 hg9 hn9;obtain⟨a9,c9,rfl⟩:=own_slice how9;have hw9:Wrote (blk (.slice av ts.length cv)) (w7.alloc (.cells yc.toArray 55)) w9:=Wrote.of_grown hg9 (fun u hu=>mem_blk.2 hu);have j9:=j1'.keepW hw9 hm2.out;replace how9:=hid how9;replace hg9:=hid hg9;replace hn9:=hid hn9;replace hw9:=hid hw9)
       | (refine wpList_store_cell rfl 28 30 _ _ rfl (fun w=>by kernel_rfl) ob 8 (scA cf z6 (.slice av ts.length cv)) (.slice a9 (ts.length+1) c9) rfl rfl j9 (by simp[scA]) rfl rfl ?_;intro w10 hw10 hr10))
      have hgg:Wrote (blk (.slice av ts.length cv)) w7 w9:=(Wrote.alloc _ w7 (.cells yc.toArray 55)).trans hw9.out;have HN:=hid (hJ.out.next (tb:=tb) (y:=y) (l3:=l3) hWt.out htn (by rw[hrt.out];exact hyr) hR7 hyM.out (by rw[hyc];exact how9.out) hgg (fun k hk=>by
       rcases hn9.out k hk with h | h
       ·exact .inl h
       right;simp at h;omega) hr10 hw10)
      have hl3:=hid (show l3.length<l'.length by have h1:=rTurn_len (C:=C) (u:=false) (l:=l') (r:=l3) (t:=y.t) (by rw[hrt.out];exact hyr);omega);clear hgg j9 hw10 hr10;try simp only[PT]
      go_roundw
      case rel=>exact⟨ts++[y],l3,_,HN⟩
      case measure=>rw[HN.rd.rdLen,hJ.out.rd.rdLen];exact hl3.out
theorem pk_within(n lo hi:Int)(w:World):Calls prog 124 #[.int .i64 n,.int .i64 lo,.int .i64 hi] w fun e w'=>e=.returned (.bool (within n lo hi))/\w=w':=by
 unfold within;by_cases h1:lo<=n
 ·by_cases h2:n<=hi<;>
  ·go_enter func124,ntmps124;go_wp2;go_ret;exact⟨by simp[h1,h2],rfl⟩
 ·go_enter func124,ntmps124;go_wp2;go_ret;exact⟨by(simp;omega),rfl⟩
theorem pk_qos(n:Int)(w:World):Calls prog 136 #[.int .i64 n] w fun e w'=>e=.returned (.bool (within n 0 2))/\w=w':=by
 have CW:=hid (pk_within n 0 2 w);go_enter func136,ntmps136;go_wp2_with fail
 refine CW.mono ?_;rintro e w1 ⟨rfl,rfl⟩;go_wp2_with fail
 go_ret;exact⟨rfl,rfl⟩
theorem checkU_is(s:List UInt8):(checkU s==0)=decide (wrongU s= -1):=by
 unfold checkU;have:=wrongU_lo s;by_cases h:0<=wrongU s
 ·rw[if_pos h,decide_eq_false (by omega)];rfl
 rw[if_neg h,decide_eq_true (by omega)];rfl
theorem pk_said(s:List UInt8)(m:Nat)(w:World)(hs:s.length<=4611686018427387904)(hm:m<=1000000):Calls prog 199 #[.string ⟨s.toArray⟩,.int .i64 m] w (AnyP (saidN s m) w):=by
 unfold saidN;have hsz:ByteArray.size ⟨s.toArray⟩=s.length:=by simp[ByteArray.size]
 have hck:=checkU_is s;by_cases h1:s.length<=m
 ·have CC:=hid (utf_Check s w (by omega));obtain⟨n,hn⟩:=gen_of s.length;obtain⟨b,hb⟩:=gen_of (decide (wrongU s= -1));obtain⟨z,hz⟩:=gen_of (checkU s);obtain⟨sb,hsb⟩:=gen_of ((⟨s.toArray⟩:ByteArray):ByteArray);rw[hn]at hsz h1 hs ⊢;rw[hz,hb]at hck;rw[hsb]at hsz CC ⊢;rw[hz]at CC;rw[hb];have d:decide ((n:Int)<=m)=true:=decide_eq_true (by omega);clear hn hb hz hsb;go_enter func199,ntmps199;go_wp2_with fail
  refine CC.mono ?_;rintro e w1 ⟨rfl,hb1⟩;have HB:=hid hb1;clear hb1;go_wp2_with fail;go_ret;exact⟨by simp[h1],HB.out⟩
 obtain⟨n,hn⟩:=gen_of s.length;obtain⟨sb,hsb⟩:=gen_of ((⟨s.toArray⟩:ByteArray):ByteArray);rw[hn]at hsz h1 hs ⊢;rw[hsb]at hsz ⊢;have d:decide ((n:Int)<=m)=false:=decide_eq_false (by omega);clear hn hsb hck;go_enter func199,ntmps199;go_wp2_with fail
 go_ret;exact⟨by simp[h1],Below.refl _ _⟩
theorem pk_mayEmp(v:Array Value)(w:World):Calls prog 120 #[.agg v] w (AnyP true w):=by
 have hb:Below w.heap.size w (w.alloc (.cells v 52)):=bel_refl.alloc nat_le_rfl _;go_enter func120,ntmps120;go_wp2_with fail
 go_ret;exact⟨rfl,hb⟩
theorem pk_mayAns(v:Array Value)(w:World):Calls prog 212 #[.agg v] w (AnyP true w):=by
 have hb:Below w.heap.size w (w.alloc (.cells v 52)):=bel_refl.alloc nat_le_rfl _;go_enter func212,ntmps212;go_wp2_with fail
 go_ret;exact⟨rfl,hb⟩
theorem pk_mayAck(p:Pk)(h:H3)(W:World):Calls prog 123 #[.agg (p.cells h).toArray] W (AnyP (mayA p) W):=by
 have CW:=hid (pk_within p.code 0 5);unfold mayA;obtain⟨xc,hxc⟩:=gen_of ((p.cells h).toArray);have hB:Blk (W.alloc (.cells xc 52)) W.heap.size xc 52:=Blk.new _ _ _;have hb:Below W.heap.size W (W.alloc (.cells xc 52)):=bel_refl.alloc nat_le_rfl _;have ix:(prog.info? 52).map (·.size)=some xc.size:=by rw[<-hxc];exact(by kernel_rfl:(prog.info? 52).map (·.size)=some 24)
 replace hb:=hid hb;have k20:∀W',Below (W.alloc (.cells xc 52)).heap.size (W.alloc (.cells xc 52)) W'->W'.cell? ⟨W.heap.size,20,none⟩=some (.int .i64 p.code):=fun W' h=>by rw[(hB.below h).cell,<-hxc];rfl
 have k19:(W.alloc (.cells xc 52)).cell? ⟨W.heap.size,19,none⟩=some (.bool p.present):=by rw[hB.cell,<-hxc];rfl
 have k20:=k20 _ bel_refl;obtain⟨c,hc⟩:=gen_of p.code;obtain⟨q,hq⟩:=gen_of p.present;obtain⟨b,hbb⟩:=gen_of (within c 0 5);rw[hc]at k20 CW ⊢;rw[hq]at k19 ⊢;rw[hbb]at CW ⊢;rw[hxc];clear hxc hB ix hq hc hbb;by_cases h0:c=0
 ·subst h0;cases b<;>cases q<;>
  ·go_enter func123,ntmps123;go_wp2_with fail
   refine(CW _).mono ?_;rintro e w1 ⟨rfl,rfl⟩;go_wp2_with fail
   go_ret;exact⟨rfl,hb.out⟩
 have d0:(c==0)=false:=by simpa using h0
 cases b<;>cases q<;>
 ·go_enter func123,ntmps123;go_wp2_with fail
  refine(CW _).mono ?_;rintro e w1 ⟨rfl,rfl⟩;go_wp2_with fail
  go_ret;exact⟨by simp[h0],hb.out⟩
def connB(z:Int):Bool:=decide (0<=z)&&decide (z<=65535)
theorem sc_may10(x:TnC)(c:Nat)(W:World)(hc:Boxed W c 66 (fnV 45 #[])):Calls prog 58 #[.agg x.cells.toArray,.pointer (some ⟨c,0,none⟩)] W (AnyP (connB x.t.conn&&decide (x.t.bytes.length<=10000)) W):=by
 obtain⟨xc,hxc⟩:=gen_of x.cells.toArray;have hB:Blk (W.alloc (.cells xc 55)) W.heap.size xc 55:=Blk.new _ _ _;have hb:Below W.heap.size W (W.alloc (.cells xc 55)):=bel_refl.alloc nat_le_rfl _;have ix:(prog.info? 55).map (·.size)=some xc.size:=by rw[<-hxc];exact(by kernel_rfl:(prog.info? 55).map (·.size)=some 30)
 replace hb:=hid hb;have hc1:=hc.alloc (.cells xc 55);have k0:=hc1.cell;unfold fnV at k0;have CM:=hid (sc_may1 x.t x.h x.hp (W.alloc (.cells xc 55)));rw[show(x.t.cells x.h x.hp).toArray=xc from hxc]at CM;have kb:Hid (∀W',Below (W.alloc (.cells xc 55)).heap.size (W.alloc (.cells xc 55)) W'->W'.cell? ⟨W.heap.size,26,none⟩=some (.string ⟨x.t.bytes.toArray⟩)):=hid fun W' h=>by rw[(hB.below h).cell,<-hxc];rfl
 have hsz:ByteArray.size ⟨x.t.bytes.toArray⟩=x.t.bytes.length:=by simp[ByteArray.size]
 obtain⟨m,hm⟩:=gen_of x.t.bytes.length;rw[hm]at hsz ⊢;obtain⟨bs,hbs⟩:=gen_of ((⟨x.t.bytes.toArray⟩:ByteArray):ByteArray);rw[hbs]at hsz kb;obtain⟨q,hq⟩:=gen_of (connB x.t.conn);rw[hq];replace hq:=hid hq;rw[hxc];clear hxc hm hbs hc hc1;go_enter func58,ntmps58;go_wp2_with (refine wL 55 rfl rfl hB underlying55 ?_ rfl rfl ix)
 refine CM.mono ?_;rintro e w1 ⟨rfl,hb1⟩;have k26:=kb w1 hb1;have HB1:=hid (hb.trans (hb1.mono hb.size));rw[show(decide (0<=x.t.conn)&&decide (x.t.conn<=65535))=q from hq.out];clear hb1 k0;cases q with
 |false=>
  go_wp2_with fail
  go_ret;exact⟨rfl,HB1.out⟩
 | true=>
  by_cases h:m<=10000
  ·have d:decide ((m:Int)<=10000)=true:=decide_eq_true (by omega);go_wp2_with fail
   go_ret;exact⟨by simp[h],HB1.out⟩
  have d:decide ((m:Int)<=10000)=false:=decide_eq_false (by omega);go_wp2_with fail
  go_ret;exact⟨by simp[h],HB1.out⟩
theorem sc_may14(x:TnC)(W:World):Calls prog 62 #[.agg x.cells.toArray] W (AnyP (decide (0<=x.t.arm)&&decide (x.t.arm<=2)&&decide (-1<=x.t.n)&&decide (x.t.n<65535)) W):=by
 obtain⟨xc,hxc⟩:=gen_of x.cells.toArray;have hB:Blk (W.alloc (.cells xc 55)) W.heap.size xc 55:=Blk.new _ _ _;have hb:Below W.heap.size W (W.alloc (.cells xc 55)):=bel_refl.alloc nat_le_rfl _;have ix:(prog.info? 55).map (·.size)=some xc.size:=by rw[<-hxc];exact(by kernel_rfl:(prog.info? 55).map (·.size)=some 30)
 replace hb:=hid hb;have k27:(W.alloc (.cells xc 55)).cell? ⟨W.heap.size,27,none⟩=some (.int .i64 x.t.arm):=by rw[hB.cell,<-hxc];rfl
 have k28:(W.alloc (.cells xc 55)).cell? ⟨W.heap.size,28,none⟩=some (.int .i64 x.t.n):=by rw[hB.cell,<-hxc];rfl
 obtain⟨u,hu⟩:=gen_of x.t.arm;obtain⟨v,hv⟩:=gen_of x.t.n;rw[hu]at k27 ⊢;rw[hv]at k28 ⊢;rw[hxc];clear hxc hB ix hu hv;by_cases h1:0<=u
 ·by_cases h2:u<=2
  ·by_cases h3: -1<=v
   ·by_cases h4:v<65535<;>
    ·go_enter func62,ntmps62;go_wp2_with fail
     go_ret;exact⟨by simp[h1,h2,h3,h4],hb.out⟩
   ·go_enter func62,ntmps62;go_wp2_with fail
    go_ret;exact⟨by(simp[h1,h2,h3];try omega),hb.out⟩
  go_enter func62,ntmps62;go_wp2_with fail
  go_ret;exact⟨by(simp[h1,h2];try omega),hb.out⟩
 go_enter func62,ntmps62;go_wp2_with fail
 go_ret;exact⟨by(simp[h1];try omega),hb.out⟩
theorem sc_pick(z:Int)(w:World):Calls prog 69 #[.int .i64 z] w (AnyP (decide (z<0)||decide (255<z)) w):=by
 by_cases h1:z<0
 ·go_enter func69,ntmps69;go_wp2_with fail
  go_ret;exact⟨by simp[h1],Below.refl _ _⟩
 by_cases h2:255<z<;>
 ·go_enter func69,ntmps69;go_wp2_with fail
  go_ret;exact⟨by simp[h1,h2],Below.refl _ _⟩
theorem sc_may18(x:TnC)(W:World)(hp:LsAt iCl 1 W x.hp.a x.hp.n x.hp.c x.t.picks):Calls prog 67 #[.agg x.cells.toArray] W (AnyP (decide (x.t.picks.length<=255)&& !x.t.picks.any fun z=>decide (z<0)||decide (255<z)) W):=by
 obtain⟨xc,hxc⟩:=gen_of x.cells.toArray;have hB:Blk (W.alloc (.cells xc 55)) W.heap.size xc 55:=Blk.new _ _ _;have hb:Below W.heap.size W (W.alloc (.cells xc 55)):=bel_refl.alloc nat_le_rfl _;have ix:(prog.info? 55).map (·.size)=some xc.size:=by rw[<-hxc];exact(by kernel_rfl:(prog.info? 55).map (·.size)=some 30)
 replace hb:=hid hb;have k29:(W.alloc (.cells xc 55)).cell? ⟨W.heap.size,29,none⟩=some (.slice x.hp.a x.hp.n x.hp.c):=by rw[hB.cell,<-hxc];rfl
 have hf:=enters_of func69 (by kernel_rfl) rfl;have CA:=hid (any_int 69 #[] (fun z=>decide (z<0)||decide (255<z)) (hp.below hb.out) hf (fun W' y _ _=>sc_pick y W'));rw[hp.len];obtain⟨q,hq⟩:=gen_of (x.t.picks.any fun z=>decide (z<0)||decide (255<z));rw[hq]at CA ⊢;rw[hxc];clear hxc hB ix hq hp;by_cases h:x.hp.n<=255
 ·have d:decide ((x.hp.n:Int)<=255)=true:=decide_eq_true (by omega);go_enter func67,ntmps67;go_wp2_with fail
  refine CA.mono ?_;rintro e w1 ⟨rfl,hb1⟩;have HB1:=hid (hb.trans (hb1.mono hb.size));clear hb1;go_wp2_with fail;go_ret;exact⟨by simp[h],HB1.out⟩
 have d:decide ((x.hp.n:Int)<=255)=false:=decide_eq_false (by omega);go_enter func67,ntmps67;go_wp2_with fail
 go_ret;exact⟨by simp[h],hb.out⟩
theorem Tells.of{P:Prop}{b:Bool}(h:b=true↔P){w:World}{e:Ending}{w':World}(k:AnyP b w e w'):Tells P w e w':=⟨b,k.out.1,h,k.out.2⟩
def CheckOK(p:Pk)(h:H3):Prop:=∀W,p.In W h->Calls prog 51 #[.agg (p.cells h).toArray] W fun e w'=>∃z:Int,e=.returned (.int .i64 z)/\(z=0↔rightP p)/\Below W.heap.size W w'
theorem sc_may6(x:TnC)(c:Nat)(W:World)(hc:Boxed W c 66 (fnV 45 #[]))(hin:x.t.In W x.h x.hp)(hP:CheckOK x.t.pk x.h):
  Calls prog 50 #[.agg x.cells.toArray,.pointer (some ⟨c,0,none⟩)] W (Tells (connB x.t.conn=true/\rightP x.t.pk) W):=by
 obtain⟨xc,hxc⟩:=gen_of x.cells.toArray;have hB:Blk (W.alloc (.cells xc 55)) W.heap.size xc 55:=Blk.new _ _ _;have hb:Below W.heap.size W (W.alloc (.cells xc 55)):=bel_refl.alloc nat_le_rfl _;have ix:(prog.info? 55).map (·.size)=some xc.size:=by rw[<-hxc];exact(by kernel_rfl:(prog.info? 55).map (·.size)=some 30)
 replace hb:=hid hb;have hc1:=hc.alloc (.cells xc 55);have k0:=hc1.cell;unfold fnV at k0;have CM:=hid (sc_may1 x.t x.h x.hp (W.alloc (.cells xc 55)));rw[show(x.t.cells x.h x.hp).toArray=xc from hxc]at CM;have kb:Hid (∀W',Below (W.alloc (.cells xc 55)).heap.size (W.alloc (.cells xc 55)) W'->W'.rangeAt W.heap.size 2 (x.t.pk.cells x.h)):=hid fun W' h=>by have h1:=hB.below h;rw[<-hxc]at h1;exact h1.mid [.int .i64 x.t.kind,.int .i64 x.t.conn] (x.t.pk.cells x.h) [.string ⟨x.t.bytes.toArray⟩,.int .i64 x.t.arm,.int .i64 x.t.n,.slice x.hp.a x.hp.n x.hp.c] (Tn.cells_eq x.t x.h x.hp)
 have HI:=hid hin;have HP:=hid hP;obtain⟨pc,hpc⟩:=gen_of (x.t.pk.cells x.h);have hpl:Hid ((prog.info? 52).map (·.size)=some pc.length):=hid (by rw[<-hpc];exact(by kernel_rfl:(prog.info? 52).map (·.size)=some 24));rw[hpc]at kb;obtain⟨q,hq⟩:=gen_of (connB x.t.conn);rw[hq];replace hq:=hid hq;replace hpc:=hid hpc;rw[hxc];clear hxc hc hc1 hP hin;go_enter func50,ntmps50;go_wp2_with (refine wL 55 rfl rfl hB underlying55 ?_ rfl rfl ix)
 refine CM.mono ?_;rintro e w1 ⟨rfl,hb1⟩;have kr:=kb w1 hb1;have HB1:=hid (hb.trans (hb1.mono hb.size));rw[show(decide (0<=x.t.conn)&&decide (x.t.conn<=65535))=q from hq.out];clear hb1 k0;cases q with
 |false=>
  go_wp2_with fail
  go_ret;exact Tells.no (fun h=>by cases h.1) HB1.out
 | true=>
  have CP:=hid (HP w1 (HI.below HB1.out).pk);rw[hpc.out]at CP;go_wp2_with (refine wLmG 52 rfl rfl kr underlying52 ?_ (by kernel_rfl) rfl hpl.out)
  refine CP.mono ?_;rintro e w2 ⟨z,rfl,hz,hb2⟩;have HB2:=hid (HB1.trans (hb2.mono HB1.size));clear hb2 kr;by_cases h:z=0
  ·subst h;have hr:=hid (hz.1 rfl);clear hz;go_wp2_with fail;go_ret;exact Tells.yes ⟨by trivial,hr.out⟩ HB2.out
  have d:(z==0)=false:=by simpa using h
  have hr:=hid (fun k=>h (hz.2 k));clear hz;go_wp2_with fail;go_ret;exact Tells.no (fun h=>hr.out h.2) HB2.out
theorem numB_two(n:Nat)(h:n<=65535):bs (numB 2 n)=[.int .u8 ((n / 256:Nat):Int),.int .u8 ((n%256:Nat):Int)]:=by rw[numB_2];unfold bs;simp only[List.map_cons,List.map_nil];rw[u8_of _ (by omega),u8_of _ (by omega),Nat.mod_eq_of_lt (by omega:n / 256<256)]
theorem lit2(x y:Int)(w:World):(w.alloc (.cells #[.int .u8 x,.int .u8 y] 5)).ownsRow w.heap.size 5 1 (.slice (some ⟨w.heap.size,0,none⟩) 2 2) 2 [.int .u8 x,.int .u8 y]:=World.ownsRow_lit w #[.int .u8 x,.int .u8 y] 2 nat_le_rfl (by decide) rfl
theorem r03_Text(s:List UInt8)(w:World)(hs:s.length<=65535):
  Calls prog 85 #[.string ⟨s.toArray⟩] w fun e w'=>∃v,e=.returned (.tuple #[v,.bool true])/\w'.ownsRow w.heap.size 5 1 v (txtB s).length (bs (txtB s))/\Below w.heap.size w w':=by
 obtain⟨i0,hi,hz0,hz1,hz2⟩:=info_parts Tryz.infoB;have hsz:(⟨s.toArray⟩:ByteArray).size=s.length:=by simp[ByteArray.size]
 have htl:bs (txtB s)=[.int .u8 ((s.length / 256:Nat):Int),.int .u8 ((s.length%256:Nat):Int)]++bs s:=by unfold txtB;rw[bs_app,numB_two _ hs]
 have hll:(txtB s).length=2+s.length:=by unfold txtB;rw[List.length_append,numB_len]
 have hsc:=strCells_bs s;obtain⟨n,hn⟩:=gen_of s.length;obtain⟨sb,hsb⟩:=gen_of ((⟨s.toArray⟩:ByteArray):ByteArray);rw[hn]at hsz hs htl hll;rw[hsb]at hsz hsc ⊢;have hlit:=lit2 ((n:Int) / 256) ((n:Int)%256) w;have e1:((n / 256:Nat):Int)=(n:Int) / 256:=by omega
 have e2:((n%256:Nat):Int)=(n:Int)%256:=by omega
 rw[e1,e2]at htl;rw[<-hsc]at htl;replace htl:=hid htl;replace hll:=hid hll;clear hsc hsb e1 e2 hn;go_enter func85,ntmps85;go_wp2_with (at_builtin;refine Go.Lib.wpList_append_own_string _ rfl _ _ 22 9 rfl _ 5 i0 underlying22 underlying9 hi hz0 hz1 hz2 _ _ _ rfl hlit sb rfl (by show 2+sb.size<=_;unfold maxLen;omega) (by show 2+sb.size<=_;omega) (by simp) ?_;intro v' w4 how4 hg4 _)
 go_ret2
 rw[hsz,<-htl.out]at how4;rw[hll.out];exact⟨v',rfl,how4,((Below.refl _ w).alloc nat_le_rfl _).grown hg4 (by simp) (fun q hq=>by have:=(hlit.lt q hq).1;omega)⟩
theorem r16_text(s:List UInt8)(w:World)(hs:s.length<=65535):Calls prog 117 #[.string ⟨s.toArray⟩] w fun e w'=>∃v,e=.returned v/\w'.ownsRow w.heap.size 5 1 v (txtB s).length (bs (txtB s))/\Below w.heap.size w w':=by
 have CT:=hid (r03_Text s w hs);go_enter func117,ntmps117;go_wp2_with fail
 refine CT.mono ?_;rintro e w1 ⟨v,rfl,how,hb⟩;obtain⟨a,c,rfl⟩:=own_slice how;have HO:=hid how;have HB:=hid hb;clear how hb;go_wp2_with fail;go_ret;exact⟨_,rfl,HO.out,HB.out⟩
theorem r28_text(s:List UInt8)(w:World)(hs:s.length<=65535):Calls prog 38 #[.string ⟨s.toArray⟩] w fun e w'=>∃v,e=.returned v/\w'.ownsRow w.heap.size 5 1 v (txtB s).length (bs (txtB s))/\Below w.heap.size w w':=by
 have CT:=hid (r03_Text s w hs);go_enter func38,ntmps38;go_wp2_with fail
 refine CT.mono ?_;rintro e w1 ⟨v,rfl,how,hb⟩;obtain⟨a,c,rfl⟩:=own_slice how;have HO:=hid how;have HB:=hid hb;clear how hb;go_wp2_with fail;go_ret;exact⟨_,rfl,HO.out,HB.out⟩
theorem r16_two(n:Nat)(w:World)(hn:n<=65535):Calls prog 118 #[.int .i64 n] w fun e w'=>∃v,e=.returned v/\w'.ownsRow w.heap.size 5 1 v 2 (bs (numB 2 n))/\Below w.heap.size w w':=by
 obtain⟨z,hz⟩:=gen_of ((n:Int):Int);have e0:bs (numB 2 n)=[.int .u8 (z / 256),.int .u8 (z%256)]:=by rw[numB_two n hn,show((n / 256:Nat):Int)=z / 256 by omega,show((n%256:Nat):Int)=z%256 by omega]
 obtain⟨xs,hxs⟩:=gen_of (bs (numB 2 n));rw[hxs]at e0 ⊢;have HL:Hid ((w.alloc (.cells #[.int .u8 (z / 256),.int .u8 (z%256)] 5)).ownsRow w.heap.size 5 1 (.slice (some ⟨w.heap.size,0,none⟩) 2 2) 2 xs):=hid (by rw[e0];exact lit2 _ _ w);have h0:0<=z:=by omega
 have h1:z<=65535:=by omega
 rw[hz];clear e0 hxs hz;go_enter func118,ntmps118;go_wp2_with fail
 go_ret;exact⟨_,rfl,HL.out,(Below.refl _ w).alloc nat_le_rfl _⟩
theorem r28_two(n:Nat)(w:World)(hn:n<=65535):Calls prog 37 #[.int .i64 n] w fun e w'=>∃v,e=.returned v/\w'.ownsRow w.heap.size 5 1 v 2 (bs (numB 2 n))/\Below w.heap.size w w':=by
 obtain⟨z,hz⟩:=gen_of ((n:Int):Int);have e0:bs (numB 2 n)=[.int .u8 (z / 256),.int .u8 (z%256)]:=by rw[numB_two n hn,show((n / 256:Nat):Int)=z / 256 by omega,show((n%256:Nat):Int)=z%256 by omega]
 obtain⟨xs,hxs⟩:=gen_of (bs (numB 2 n));rw[hxs]at e0 ⊢;have HL:Hid ((w.alloc (.cells #[.int .u8 (z / 256),.int .u8 (z%256)] 5)).ownsRow w.heap.size 5 1 (.slice (some ⟨w.heap.size,0,none⟩) 2 2) 2 xs):=hid (by rw[e0];exact lit2 _ _ w);have h0:0<=z:=by omega
 have h1:z<=65535:=by omega
 rw[hz];clear e0 hxs hz;go_enter func37,ntmps37;go_wp2_with fail
 go_ret;exact⟨_,rfl,HL.out,(Below.refl _ w).alloc nat_le_rfl _⟩
theorem r16_one(b:Bool)(n:Int)(w:World):Calls prog 86 #[.bool b,.int .i64 n] w fun e w'=>e=.returned (.int .i64 (if b then n else 0))/\w=w':=by
 cases b<;>
 ·go_enter func86,ntmps86;go_wp2_with fail
  go_ret;exact⟨rfl,rfl⟩
theorem r16_said(s:List UInt8)(m:Nat)(w:World)(hs:s.length<=4611686018427387904)(hm:m<=1000000):Calls prog 179 #[.string ⟨s.toArray⟩,.int .i64 m] w (AnyP (saidN s m) w):=by
 unfold saidN;have hsz:ByteArray.size ⟨s.toArray⟩=s.length:=by simp[ByteArray.size]
 have hlo:=wrongU_lo s;by_cases h1:s.length<=m
 ·have CC:=hid (ref_Runes s w (by omega));unfold RunesR at CC;obtain⟨n,hn⟩:=gen_of s.length;obtain⟨z,hz⟩:=gen_of (wrongU s);obtain⟨sb,hsb⟩:=gen_of ((⟨s.toArray⟩:ByteArray):ByteArray);rw[hn]at hsz h1 hs ⊢;rw[hsb]at hsz CC ⊢;rw[hz]at CC hlo ⊢;have d:decide ((m:Int)<n)=false:=decide_eq_false (by omega);clear hn hz hsb;go_enter func179,ntmps179;go_wp2_with fail
  refine CC.mono ?_;rintro e w1 ⟨hb1,⟨hz,v,rfl,how⟩ | ⟨hz,rfl⟩⟩
  ·have HB:=hid hb1;obtain⟨a,c,rfl⟩:=own_slice how;subst hz;clear hb1 how;go_wp2_with fail;go_ret;exact⟨by simp[h1],HB.out⟩
  have HB:=hid hb1;clear hb1;have d0:decide (z<0)=false:=decide_eq_false (by omega);have hz2:Hid (z≠ -1):=hid (by omega);go_wp2_with fail
  go_ret;exact⟨by simp[h1,hz2.out,d0],HB.out⟩
 obtain⟨n,hn⟩:=gen_of s.length;obtain⟨sb,hsb⟩:=gen_of ((⟨s.toArray⟩:ByteArray):ByteArray);rw[hn]at hsz h1 hs ⊢;rw[hsb]at hsz ⊢;have d:decide ((m:Int)<n)=true:=decide_eq_true (by omega);clear hn hsb;go_enter func179,ntmps179;go_wp2_with fail
 go_ret;exact⟨by simp[h1],Below.refl _ _⟩
structure PkS (p:Pk):Prop where
 topic:p.topic.length<=2000000
 body:p.body.length<=2000000
 client:p.client.length<=2000000
 wt:p.will.topic.length<=2000000
 wb:p.will.body.length<=2000000
 user:p.user.length<=2000000
 pass:p.pass.length<=2000000
 wants:∀x∈p.wants,x.filter.length<=2000000
 filters:∀x∈p.filters,x.length<=2000000
def pubId(p:Pk):Bool:=(decide (p.qos=0)&&decide (p.id=0)&& !p.dup)||(decide (0<p.qos)&&within p.id 1 65535)
theorem pk_mayPub(p:Pk)(h:H3)(W:World)(hs:PkS p):Calls prog 204 #[.agg (p.cells h).toArray] W (AnyP (mayPub p) W):=by
 have CN:=hid (fun W'=>topic_Name p.topic W' (by have:=hs.topic;omega) (anyOK p.topic (by have:=hs.topic;omega)));have CW:=hid (pk_within p.id 1 65535);have CQ:=hid (pk_qos p.qos);have hbl:=hs.body;have hm:mayPub p=(nameR p.topic&&decide (p.body.length<=2000)&&within p.qos 0 2&&pubId p):=rfl;rw[hm];have hid':pubId p=((decide (p.qos=0)&&decide (p.id=0)&& !p.dup)||(decide (0<p.qos)&&within p.id 1 65535)):=rfl;have hsz:ByteArray.size ⟨p.body.toArray⟩=p.body.length:=by simp[ByteArray.size]
 obtain⟨xc,hxc⟩:=gen_of ((p.cells h).toArray);have hB:Blk (W.alloc (.cells xc 52)) W.heap.size xc 52:=Blk.new _ _ _;have hb:Below W.heap.size W (W.alloc (.cells xc 52)):=bel_refl.alloc nat_le_rfl _;have ix:(prog.info? 52).map (·.size)=some xc.size:=by rw[<-hxc];exact(by kernel_rfl:(prog.info? 52).map (·.size)=some 24)
 replace hb:=hid hb;clear hm hs;have k1:(W.alloc (.cells xc 52)).cell? ⟨W.heap.size,1,none⟩=some (.bool p.dup):=by rw[hB.cell,<-hxc];rfl
 have k3:(W.alloc (.cells xc 52)).cell? ⟨W.heap.size,3,none⟩=some (.int .i64 p.qos):=by rw[hB.cell,<-hxc];rfl
 have k4:(W.alloc (.cells xc 52)).cell? ⟨W.heap.size,4,none⟩=some (.string ⟨p.topic.toArray⟩):=by rw[hB.cell,<-hxc];rfl
 have k6:(W.alloc (.cells xc 52)).cell? ⟨W.heap.size,6,none⟩=some (.int .i64 p.id):=by rw[hB.cell,<-hxc];rfl
 have kb:Hid (∀W',Below (W.alloc (.cells xc 52)).heap.size (W.alloc (.cells xc 52)) W'->W'.cell? ⟨W.heap.size,5,none⟩=some (.string ⟨p.body.toArray⟩)/\W'.cell? ⟨W.heap.size,3,none⟩=some (.int .i64 p.qos)):=hid fun W' h=>⟨by rw[(hB.below h).cell,<-hxc];rfl,by rw[(hB.below h).cell,<-hxc];rfl⟩;obtain⟨n,hn⟩:=gen_of p.body.length;obtain⟨bb,hbb⟩:=gen_of ((⟨p.body.toArray⟩:ByteArray):ByteArray);obtain⟨tb,htb⟩:=gen_of ((⟨p.topic.toArray⟩:ByteArray):ByteArray);obtain⟨nm,hnm⟩:=gen_of (nameR p.topic);obtain⟨ib,hib⟩:=gen_of (pubId p);obtain⟨z,hz⟩:=gen_of p.qos;obtain⟨i,hi⟩:=gen_of p.id;obtain⟨q,hq⟩:=gen_of p.dup;obtain⟨wq,hwq⟩:=gen_of (within z 0 2);obtain⟨wi,hwi⟩:=gen_of (within i 1 65535);rw[hib,hz,hi,hq,hwi]at hid';rw[hn]at hsz hbl ⊢;rw[hbb]at hsz kb;rw[htb]at k4 CN;rw[hnm]at CN ⊢;rw[hz]at k3 kb CQ ⊢;rw[hi]at k6 CW;rw[hq]at k1;rw[hwq]at CQ ⊢;rw[hwi]at CW;rw[hib,hxc];replace hid':=hid hid';clear hxc hB ix hn hbb htb hnm hib hz hi hq hwq hwi;obtain⟨W0,hW0⟩:=gen_of (W.alloc (.cells xc 52));rw[hW0]at k1 k3 k4 k6 kb hb;go_enter func204,ntmps204;go_upto_region 1 with fail
 clear hW0;go_cut [3]from 4 to 26 (fun s3 wx=>s3=.bool ib/\W0=wx)
 case first=>
  by_cases hz:z=0
  ·subst hz;by_cases hi:i=0
   ·subst hi;have e:ib= !q:=by have:=hid'.out;simpa using this
    subst e;cases q<;>
    ·go_wp2_with fail
     go_meet
     case rel=>exact⟨rfl,rfl⟩
   have e:ib=false:=by have:=hid'.out;simpa[hi]using this
   have d0:(i==0)=false:=by simpa using hi
   subst e;go_wp2_with fail;go_meet
   case rel=>exact⟨rfl,rfl⟩
  have d0:(z==0)=false:=by simpa using hz
  by_cases h0:0<z
  ·have e:ib=wi:=by have:=hid'.out;simpa[hz,h0]using this
   subst e;go_wp2_with fail;refine(CW _).mono ?_;rintro e w1 ⟨rfl,rfl⟩;go_wp2_with fail
   go_meet
   case rel=>exact⟨rfl,rfl⟩
  have e:ib=false:=by have:=hid'.out;simpa[hz,h0]using this
  have d1:decide (0<z)=false:=decide_eq_false h0;subst e;go_wp2_with fail;go_meet
  case rel=>exact⟨rfl,rfl⟩
 case rest=>
  obtain⟨rfl,rfl⟩:=hcut;clear hid';go_wp2_with fail;refine(CN _).mono ?_;rintro e w1 ⟨rfl,hb1⟩;obtain⟨c5,c3⟩:=kb _ hb1;have HB:=hid (hb.trans (hb1.mono hb.size));clear hb1;cases nm with
  |false=>
   go_wp2_with fail
   go_ret;exact⟨rfl,HB.out⟩
  | true=>
   by_cases hn:n<=2000
   ·have d:decide ((n:Int)<=2000)=true:=decide_eq_true (by omega);go_wp2_with fail
    refine(CQ _).mono ?_;rintro e w2 ⟨rfl,rfl⟩;cases wq<;>
    ·go_wp2_with fail
     go_ret;exact⟨by simp[hn],HB.out⟩
   have d:decide ((n:Int)<=2000)=false:=decide_eq_false (by omega);go_wp2_with fail
   go_ret;exact⟨by simp[hn],HB.out⟩
structure LiB (fl:Int)(h m wr rd:Value)(b:Nat)(w:World):Prop where
 fl:Boxed w b 3 (.int .i64 fl)
 has:Boxed w (b+1) 145 h
 may:Boxed w (b+2) 137 m
 wr:Boxed w (b+3) 147 wr
 rd:Boxed w (b+4) 195 rd
theorem LiB.below{fl:Int}{h m wr rd:Value}{b:Nat}{w w':World}(x:LiB fl h m wr rd b w)(hb:Below w.heap.size w w'):LiB fl h m wr rd b w':=
 ⟨boxed_below x.fl hb,boxed_below x.has hb,boxed_below x.may hb,boxed_below x.wr hb,boxed_below x.rd hb⟩
theorem LiB.wrote{fl:Int}{h m wr rd:Value}{b:Nat}{w w':World}{M:List Nat}(x:LiB fl h m wr rd b w)(hw:Wrote M w w')(h0:b∉M)(h1:b+1∉M)(h2:b+2∉M)(h3:b+3∉M)(h4:b+4∉M):LiB fl h m wr rd b w':=
 ⟨hw.boxed h0 x.fl,hw.boxed h1 x.has,hw.boxed h2 x.may,hw.boxed h3 x.wr,hw.boxed h4 x.rd⟩
def ptrV(b:Nat):Value:=.pointer (some ⟨b,0,none⟩)
def liV(b:Nat):Array Value:=#[fnV 183 #[ptrV (b+2)],fnV 184 #[ptrV (b+1)],fnV 185 #[ptrV b],fnV 186 #[ptrV (b+3)],fnV 187 #[ptrV (b+4)]]
theorem pk_list(fl:Int)(f1 f2 f3 f4:FuncId)(w:World):Calls prog 130 #[.int .i64 fl,fnV f1 #[],fnV f2 #[],fnV f3 #[],fnV f4 #[]] w fun e w'=>∃b,w.heap.size<=b/\e=.returned (.agg (liV b))/\LiB fl (fnV f1 #[]) (fnV f2 #[]) (fnV f3 #[]) (fnV f4 #[]) b w'/\Below w.heap.size w w':=by
 have hmf:∀(fn:Fn)(first cap:Array Value)(w:World),(Instr.makeFunc fn first cap).run prog w=.ok (.func fn first cap) w:=fun _ _ _ _=>rfl;obtain⟨w1,hw1⟩:=gen_of (((((w.alloc (.cells #[.int .i64 fl] 3)).alloc (.cells #[fnV f1 #[]] 145)).alloc (.cells #[fnV f2 #[]] 137)).alloc (.cells #[fnV f3 #[]] 147)).alloc (.cells #[fnV f4 #[]] 195));have hL:LiB fl (fnV f1 #[]) (fnV f2 #[]) (fnV f3 #[]) (fnV f4 #[]) w.heap.size w1:=by
  rw[<-hw1];refine⟨?_,?_,?_,?_,?_⟩
  ·exact((((Boxed.new w _ _).alloc _).alloc _).alloc _).alloc _
  ·have h:=Boxed.new (w.alloc (.cells #[.int .i64 fl] 3)) 145 (fnV f1 #[]);rw[World.size_alloc]at h;exact((h.alloc _).alloc _).alloc _
  ·have h:=Boxed.new ((w.alloc (.cells #[.int .i64 fl] 3)).alloc (.cells #[fnV f1 #[]] 145)) 137 (fnV f2 #[]);rw[World.size_alloc,World.size_alloc]at h;exact(h.alloc _).alloc _
  ·have h:=Boxed.new (((w.alloc (.cells #[.int .i64 fl] 3)).alloc (.cells #[fnV f1 #[]] 145)).alloc (.cells #[fnV f2 #[]] 137)) 147 (fnV f3 #[]);rw[World.size_alloc,World.size_alloc,World.size_alloc]at h;exact h.alloc _
  have h:=Boxed.new ((((w.alloc (.cells #[.int .i64 fl] 3)).alloc (.cells #[fnV f1 #[]] 145)).alloc (.cells #[fnV f2 #[]] 137)).alloc (.cells #[fnV f3 #[]] 147)) 195 (fnV f4 #[]);rw[World.size_alloc,World.size_alloc,World.size_alloc,World.size_alloc]at h;exact h
 have hb:Below w.heap.size w w1:=by rw[<-hw1];exact belw
 have hs:w1.heap.size=w.heap.size+5:=by rw[<-hw1];simp
 unfold fnV at hw1 ⊢;go_enter func130,ntmps130;replace hs:=hid hs;go_wp2_with fail;refine bodyPost_ret (results_cell1 results130 rfl (run_loadVar_blk (Blk.new w1 (liV w.heap.size) 150) 150 underlying150 rfl (by kernel_rfl))) rfl ?_;have hb2:Below w1.heap.size w1 (w1.alloc (.cells (liV w.heap.size) 150)):=(Below.refl _ w1).alloc nat_le_rfl _;exact⟨w.heap.size,Nat.le_refl _,rfl,hL.below hb2,hb.trans (hb2.mono hb.size)⟩
def conV:Array Value:=#[fnV 197 #[],fnV 200 #[],.nilFunc,fnV 201 #[],fnV 203 #[]]
def pubV:Array Value:=#[fnV 204 #[],fnV 205 #[],fnV 206 #[],fnV 208 #[],fnV 209 #[]]
theorem pk_connect(w:World):Calls prog 156 #[] w fun e w'=>e=.returned (.agg conV)/\Below w.heap.size w w':=by
 go_enter func156,ntmps156;go_wp2_with fail
 refine bodyPost_ret (results_cell1 results156 rfl (run_loadVar_blk (Blk.new w conV 150) 150 underlying150 rfl (by kernel_rfl))) rfl ?_;exact⟨rfl,(Below.refl _ w).alloc nat_le_rfl _⟩
theorem pk_publish(w:World):Calls prog 157 #[] w fun e w'=>e=.returned (.agg pubV)/\Below w.heap.size w w':=by
 go_enter func157,ntmps157;go_wp2_with fail
 refine bodyPost_ret (results_cell1 results157 rfl (run_loadVar_blk (Blk.new w pubV 150) 150 underlying150 rfl (by kernel_rfl))) rfl ?_;exact⟨rfl,(Below.refl _ w).alloc nat_le_rfl _⟩
theorem pk_answer(fl:Int)(w:World):Calls prog 158 #[.int .i64 fl] w fun e w'=>∃b,w.heap.size<=b/\e=.returned (.agg (liV b))/\LiB fl (fnV 211 #[]) (fnV 212 #[]) (fnV 213 #[]) (fnV 214 #[]) b w'/\Below w.heap.size w w':=by
 obtain⟨W0,hW0⟩:=gen_of (w.alloc (.cells #[.nilFunc,.nilFunc,.nilFunc,.nilFunc,.nilFunc] 150));have hb0:Below w.heap.size w W0:=by rw[<-hW0];exact(Below.refl _ w).alloc nat_le_rfl _
 have hx:Blk W0 w.heap.size #[.nilFunc,.nilFunc,.nilFunc,.nilFunc,.nilFunc] 150:=by rw[<-hW0];exact Blk.new _ _ _
 have CL:=hid (pk_list fl 211 212 213 214 W0);replace hb0:=hid hb0;replace hx:=hid hx;go_enter func158,ntmps158;go_wp2_with fail
 refine CL.mono ?_;rintro e w1 ⟨b,hbl,rfl,hL,hb1⟩;have hbl:=hid hbl;have hx1:=hx.below hb1;have HL:=hid hL;have HB:=hid (hb0.trans (hb1.mono hb0.size));have hs1:=hid hb1.size;clear hL hb1;obtain⟨cs,hcs⟩:=gen_of (liV b);have hz:Hid (cs.size=5):=hid (by rw[<-hcs];rfl);have ho:Hid (∀v∈cs.toList,v.oneCell'=true):=hid (by rw[<-hcs];simp[liV,fnV,Value.oneCell']);rw[hcs];replace hcs:=hid hcs;go_wp2_with (refine wS 150 5 rfl _ _ cs rfl rfl hx1 hz.out rfl ho.out ?_;intro w2 hw2 hr2);refine bodyPost_ret (results_cell1 results158 rfl (run_loadVar_blk hw2 150 underlying150 rfl (by rw[hz];kernel_rfl))) rfl ?_;have hlt:=hx.lt;have hbl:=hbl.out;exact⟨b,by omega,by rw[hcs.out],HL.wrote hr2 (by simp;omega) (by simp;omega) (by simp;omega) (by simp;omega) (by simp;omega),HB.trans (hr2.below HB.size (by simp))⟩
end
end Go.Proofs.YtkghejaimhoboaaGreatDoor
