/- Parts of the proof of ScriptRaws. -/
import Derived.Test.YtkghejaimhoboaaGreatDoorPr24
import Derived.Test.YtkghejaimhoboaaGreatDoorPr23
set_option linter.unusedSimpArgs false
set_option linter.unusedVariables false
set_option maxRecDepth 100000
set_option maxHeartbeats 8000000
namespace Go.Proofs.YtkghejaimhoboaaGreatDoor
open Go.RowKit Go.Shelf Go.Proofs.Tryz
section
attribute [local go_sem] Oper.semAt_some
theorem InN.zero(w:World)(t:Tn)(h:t.pk.wants=[]/\t.pk.codes=[]/\t.pk.filters=[]/\t.picks=[])(M:List Nat):InN w ⟨t,h3Z,hdZ⟩ M:=by
 obtain⟨a,b,c,d⟩:=h;refine⟨?_,?_,?_,?_⟩
 ·dsimp only;rw[a];exact LsN.nil w M
 ·dsimp only;rw[b];exact LsN.nil w M
 ·dsimp only;rw[c];exact LsN.nil w M
 dsimp only;rw[d];exact LsN.nil w M
theorem sc_read_none(C:PkCode)(k:Int)(hk:k=1\/k=4\/k=5\/k=6)(W:World)(B p tb:Nat)(l:List UInt8)(cn:Int)(hR:Rd W B p l)(hb:Blk W tb ((tn0 k cn).cells h3Z hdZ).toArray 55):
  Calls prog 48 #[.agg #[.pointer (some ⟨p,0,none⟩)],.pointer (some ⟨tb,0,none⟩)] W (ReadP C B p tb (tn0 k cn) l W):=
 (sc_read4 _ _ W).mono fun e w' ⟨he,hbl⟩=>⟨Wrote.of_below hbl,.inr ⟨⟨tn0 k cn,h3Z,hdZ⟩,l,rPart_b hk l,he,hR.below hbl,hb.below hbl,fun M _=>InN.zero w' _ ⟨rfl,rfl,rfl,rfl⟩ M⟩⟩
theorem sc_read13(C:PkCode)(W:World)(B p tb:Nat)(l:List UInt8)(cn:Int)(hR:Rd W B p l)(hb:Blk W tb ((tn0 3 cn).cells h3Z hdZ).toArray 55)(hB:B<=tb):
  Calls prog 61 #[.agg #[.pointer (some ⟨p,0,none⟩)],.pointer (some ⟨tb,0,none⟩)] W (ReadP C B p tb (tn0 3 cn) l W):=by
 have b0:Below W.heap.size W (W.alloc (.cells #[.pointer (some ⟨p,0,none⟩)] 61)):=bel_refl.alloc nat_le_rfl _;have CX:=hid (sc_rtext (hR.below b0));have hb1:=hb.below b0;have W0:Wrote [p,tb] W (W.alloc (.cells #[.pointer (some ⟨p,0,none⟩)] 61)):=Wrote.of_below b0;have hpb:=hR.lt;have htl:=hid hb.lt;have HB1:=hid hb1;have W0:=hid W0;clear hb hb1 b0 hR;go_enter func61,ntmps61;go_wp2_with fail
 refine CX.mono ?_;rintro e w1 (⟨hno,rfl,hw1⟩ | ⟨⟨s,r⟩,hx,rfl,hR1,hw1⟩)
 ·refine⟨rfl,W0.trans (hw1.sub (by simp)),.inl ⟨?_,rfl⟩⟩;rw[rPart_3 (t:=tn0 3 cn) rfl,hno];rfl
 have ht1:=HB1.keepW hw1 (by simp;omega);dsimp only at hR1 ⊢;have HR1:=hid hR1;have HW1:=hid (W0.trans (hw1.sub (by simp)));have hx:=hid hx;clear hw1 hR1;obtain⟨tc,htc⟩:=gen_of (((tn0 3 cn).cells h3Z hdZ).toArray);have hts:Hid (tc.size=30):=hid (by rw[<-htc];rfl);have hty:Hid (tc.setIfInBounds 26 (.string ⟨s.toArray⟩)=(({tn0 3 cn with bytes:=s}:Tn).cells h3Z hdZ).toArray):=hid (by rw[<-htc];rfl);rw[htc]at ht1;clear htc;go_wp2_with (refine wpList_store_cell rfl 9 55 _ _ rfl (fun w=>by kernel_rfl) tb 26 tc (.string ⟨s.toArray⟩) rfl rfl ht1 (by rw[hts];decide) rfl rfl ?_;intro w2 hw2 hr2);rw[hty]at hw2;have H:ReadP C B p tb (tn0 3 cn) l W (.returned (.tuple #[])) w2:=⟨HW1.trans (hr2.sub (by simp)),.inr ⟨⟨{tn0 3 cn with bytes:=s},h3Z,hdZ⟩,r,by(rw[rPart_3 (t:=tn0 3 cn) rfl,hx.out];rfl),rfl,HR1.wrote hr2 (by simp;exact hB),hw2,fun M _=>InN.zero w2 _ ⟨rfl,rfl,rfl,rfl⟩ M⟩⟩
 go_end0
 exact H
theorem ivs_flat(xs:List Int):ivs xs=xs.flatMap iCl:=by
 unfold ivs iCl;induction xs with
 | nil=>rfl
 | cons z zs ih=>rw[List.map_cons,List.flatMap_cons,ih];rfl
theorem own_lsN{α:Type}{f:α->List Value}{size:Nat}(hf:∀x,(f x).length=size){w:World}{base c:Nat}{e:TypeId}{a:Option Addr}{n:Nat}{xs:List α}(h:w.ownsRow base e size (.slice a n c) n (xs.flatMap f))(hl:xs.length=n){M:List Nat}(hM:∀b∈M,b<base):LsN f size w ⟨a,n,c⟩ xs M:=
 ⟨ls_of_own hf h hl,fun hne y hy hm=>by have h1:=hM _ hm;have h2:=(h.lt y.block (by dsimp only at hy;rw[hy];rfl)).1;omega⟩
theorem rMany_len{α:Type}(take:List UInt8->Option (α×List UInt8)):∀(n:Nat)(l r:List UInt8)(xs:List α),rMany take n l=some (xs,r)->xs.length=n
 | 0,l,r,xs,h=>by cases h;rfl
 | n+1,l,r,xs,h=>by
  unfold rMany at h;cases h1:take l with
  | none=>rw[h1]at h;cases h
  | some x=>
   rw[h1,Option.bind_some]at h;cases h2:rMany take n x.2 with
   | none=>rw[h2]at h;cases h
   |some y=>rw[h2,Option.bind_some]at h;cases h;rw[List.length_cons,rMany_len take n x.2 y.2 y.1 h2]
theorem sc_pick1(W:World)(B p rb:Nat)(l:List UInt8)(hR:Rd W B p l)(hb:Blk W rb #[.pointer (some ⟨p,0,none⟩)] 61):Calls prog 73 #[.pointer (some ⟨rb,0,none⟩)] W (NumP 1 B p l W):=by
 have CN:=hid (sc_number hR 1 (by decide) (by decide));go_enter func73,ntmps73;go_wp2_with (refine wL 61 rfl rfl hb underlying61 ?_)
 refine CN.mono ?_;rintro e w1 (⟨hx,rfl,hw1⟩ | ⟨x,hx,rfl,hR1,hw1⟩)
 ·exact⟨rfl,.inl ⟨hx,rfl,hw1⟩⟩
 have H:=hid (show NumP 1 B p l W (.returned (.int .i64 x.1)) w1 from .inr ⟨x,hx,rfl,hR1,hw1⟩);clear hx hR1 hw1;go_wp2_with fail;go_ret;exact H.out
theorem sc_read21(C:PkCode)(W:World)(B p tb:Nat)(l:List UInt8)(cn:Int)(hR:Rd W B p l)(hb:Blk W tb ((tn0 8 cn).cells h3Z hdZ).toArray 55)(hB:B<=tb):
  Calls prog 72 #[.agg #[.pointer (some ⟨p,0,none⟩)],.pointer (some ⟨tb,0,none⟩)] W (ReadP C B p tb (tn0 8 cn) l W):=by
 have hmf:∀(fn:Fn)(first cap:Array Value)(w:World),(Instr.makeFunc fn first cap).run prog w=.ok (.func fn first cap) w:=fun _ _ _ _=>rfl;obtain⟨W0,hW0⟩:=gen_of (W.alloc (.cells #[.pointer (some ⟨p,0,none⟩)] 61));have b0:Below W.heap.size W W0:=by rw[<-hW0];exact bel_refl.alloc nat_le_rfl _
 have hx0:Blk W0 W.heap.size #[.pointer (some ⟨p,0,none⟩)] 61:=by rw[<-hW0];exact Blk.new _ _ _
 have CX:=hid (sc_number (hR.below b0) 1 (by decide) (by decide));have HB1:=hid (hb.below b0);have K0:Hid (Wrote [p,tb] W W0):=hid (Wrote.of_below b0);have hpb:=hR.lt;have hbs:=hR.base;have htl:=hid hb.lt;have hf:=enters_of func73 (by kernel_rfl) rfl;have s0:=b0.size;clear hb b0 hR;go_enter func72,ntmps72;go_wp2_with (refine wL 61 rfl rfl hx0 underlying61 ?_)
 refine CX.mono ?_;rintro e w1 (⟨hno,rfl,hw1⟩ | ⟨⟨m,r⟩,hx,rfl,hR1,hw1⟩)
 ·refine⟨rfl,K0.trans (hw1.sub (by simp)),.inl ⟨?_,rfl⟩⟩;rw[rPart_8 (t:=tn0 8 cn) rfl,hno];rfl
 have ht1:=HB1.keepW hw1 (by simp;omega);have hx1:=hx0.keepW hw1 (by simp;omega);have hm:m<256:=by have:=(rNum_some hx).2;simpa using this
 dsimp only at hR1 ⊢;have CT:=hid (sc_taken 73 #[.pointer (some ⟨W.heap.size,0,none⟩)] 1 m B p W.heap.size r w1 hf hR1 hx1 (by omega) hx1.lt (by omega) (fun W1 l1 h1 h2=>sc_pick1 W1 B p W.heap.size l1 h1 h2));have K1:=hid (K0.trans (hw1.sub (by simp)));have hx:=hid hx;have s1:=hid hw1.size;have HT1:=hid ht1;clear hw1 hR1 ht1 hm;go_wp2_with fail;refine CT.mono ?_;rintro e w2 ⟨hw2,hx2⟩;have K2:=hid (K1.trans (hw2.sub (by simp)));rcases hx2 with⟨hno,rfl⟩ | ⟨xs,l2,v,hmm,rfl,hR2,ho2⟩
 ·refine⟨rfl,K2.out,.inl ⟨?_,rfl⟩⟩;rw[rPart_8 (t:=tn0 8 cn) rfl,hx.out,Option.bind_some];dsimp only;rw[show rMany rCode m r=none from hno];rfl
 obtain⟨av,cv,rfl⟩:=own_slice ho2;have hlen:=rMany_len _ _ _ _ _ hmm;have ht2:=HT1.keepW hw2 (by simp;omega);rw[ivs_flat]at ho2;have HO:=hid ho2;have HM:=hid hmm;have HR2:=hid hR2;have HL:=hid hlen;clear hw2 ho2 hmm hR2 hlen;obtain⟨tc,htc⟩:=gen_of (((tn0 8 cn).cells h3Z hdZ).toArray);have hts:Hid (tc.size=30):=hid (by rw[<-htc];rfl);have hty:Hid (tc.setIfInBounds 29 (.slice av m cv)=(({tn0 8 cn with picks:=xs}:Tn).cells h3Z ⟨av,m,cv⟩).toArray):=hid (by rw[<-htc];rfl);rw[htc]at ht2;clear htc;go_wp2_with (refine wpList_store_cell rfl 49 55 _ _ rfl (fun w=>by kernel_rfl) tb 29 tc (.slice av m cv) rfl rfl ht2 (by rw[hts];decide) rfl rfl ?_;intro w3 hw3 hr3);rw[hty]at hw3;have H:ReadP C B p tb (tn0 8 cn) l W (.returned (.tuple #[])) w3:=⟨K2.trans (hr3.sub (by simp)),.inr ⟨⟨{tn0 8 cn with picks:=xs},h3Z,⟨av,m,cv⟩⟩,l2,by rw[rPart_8 (t:=tn0 8 cn) rfl,hx.out,Option.bind_some];dsimp only;rw[show rMany rCode m r=some (xs,l2)from HM.out];rfl,rfl,HR2.wrote hr3 (by simp;exact hB),hw3,fun M hM=>?_⟩⟩
 ·go_end0
  exact H
 have hlp:LsN iCl 1 w3 ⟨av,m,cv⟩ xs M:=by
  refine own_lsN (f:=iCl) (size:=1) (fun x=>rfl) (not_own HO.out hr3 (fun y hy hm=>?_)) HL.out (fun b hb=>?_)
  ·have:=(HO.lt y (mem_blk.1 hm)).1;have:=s1.out;have:=htl.out;simp at hy;omega
  have:=hM b hb;have:=s1.out;omega
 exact⟨LsN.nil w3 M,LsN.nil w3 M,LsN.nil w3 M,hlp⟩
theorem sc_read17(C:PkCode)(W:World)(B p tb:Nat)(l:List UInt8)(cn:Int)(hR:Rd W B p l)(hb:Blk W tb ((tn0 7 cn).cells h3Z hdZ).toArray 55)(hB:B<=tb):
  Calls prog 66 #[.agg #[.pointer (some ⟨p,0,none⟩)],.pointer (some ⟨tb,0,none⟩)] W (ReadP C B p tb (tn0 7 cn) l W):=by
 obtain⟨W0,hW0⟩:=gen_of (W.alloc (.cells #[.pointer (some ⟨p,0,none⟩)] 61));have b0:Below W.heap.size W W0:=by rw[<-hW0];exact bel_refl.alloc nat_le_rfl _
 have hx0:Blk W0 W.heap.size #[.pointer (some ⟨p,0,none⟩)] 61:=by rw[<-hW0];exact Blk.new _ _ _
 have R0:=hR.below b0;have T0:=hb.below b0;have K0:Wrote [p,tb] W W0:=Wrote.of_below b0;have hpb:=hR.lt;have hbs:=hR.base;have htl:=hb.lt;clear hb hR;go_enter func66,ntmps66;go_upto_region 1 with fail
 have xD:Blk W0.drew W.heap.size #[.pointer (some ⟨p,0,none⟩)] 61:=hx0;have tD:Blk W0.drew tb ((tn0 7 cn).cells h3Z hdZ).toArray 55:=T0;have RD:Rd W0.drew B p l:=R0.below ((Below.refl _ W0).drew);have KD:Wrote [p,tb] W W0.drew:=K0.trans (Wrote.of_below ((Below.refl _ W0).drew));refine regionP [(1000,fun w'=>Blk w' W.heap.size #[.pointer (some ⟨p,0,none⟩)] 61)] ?_ (by kernel_rfl) ⟨xD,trivial⟩ fun KQ hKQ=>?_
 ·intro c a d v w h;cases d<;>exact h
 try simp only[PT]
 obtain⟨WD,hWD⟩:=gen_of W0.drew;rw[hWD]at xD tD RD KD ⊢;refine tQ [0,1] ?_;refine loadQ 2 rfl (by kernel_rfl) (by kernel_rfl) rfl rfl 0 rfl (by kernel_rfl) (.agg #[.pointer (some ⟨p,0,none⟩)]) (fun w' hf=>by(exact run_load_blk hf 61 underlying61 rfl (by kernel_rfl))) ?_;simp only[PT];refine loadQ 4 rfl (by kernel_rfl) (by kernel_rfl) rfl rfl 0 rfl (by kernel_rfl) (.agg #[.pointer (some ⟨p,0,none⟩)]) (fun w' hf=>by(exact run_load_blk hf 61 underlying61 rfl (by kernel_rfl))) ?_;simp only[PT];refine sQ 3 fun K hK=>?_;simp only[GO];go_simp;refine(sc_number RD 1 (by decide) (by decide)).mono ?_;rintro e w1 (⟨hno,rfl,hw1⟩ | ⟨⟨k1,r1⟩,hx1,rfl,R1,hw1⟩)
 ·refine hKQ.out _ _ _ ?_;refine⟨rfl,KD.trans (hw1.sub (by simp)),.inl ⟨?_,rfl⟩⟩;rw[rPart_7 (t:=tn0 7 cn) rfl,hno];rfl
 dsimp only at R1 ⊢;have x1:=xD.keepW hw1 (by simp;omega);have t1:=tD.keepW hw1 (by simp;omega);have K1:=KD.trans (hw1.sub (by simp));refine hK _ _ ⟨⟨fun _=>x1,trivial⟩,?_⟩;clear hK K;try simp only[PT]
 refine sQ 5 fun K hK=>?_;simp only[GO];go_simp;refine(sc_number R1 2 (by decide) (by decide)).mono ?_;rintro e w2 (⟨hno,rfl,hw2⟩ | ⟨⟨k2,r2⟩,hx2,rfl,R2,hw2⟩)
 ·refine hKQ.out _ _ _ ?_;refine⟨rfl,K1.trans (hw2.sub (by simp)),.inl ⟨?_,rfl⟩⟩;rw[rPart_7 (t:=tn0 7 cn) rfl,hx1,Option.bind_some];dsimp only;rw[hno];rfl
 dsimp only at R2 ⊢;have x2:=x1.keepW hw2 (by simp;omega);have t2:=t1.keepW hw2 (by simp;omega);have K2:=K1.trans (hw2.sub (by simp));have hk2:k2<65536:=by have:=(rNum_some hx2).2;simpa using this
 refine hK _ _ ⟨⟨fun _=>x2,trivial⟩,?_⟩;clear hK K;try simp only[PT]
 refine readQ 6 rfl (by kernel_rfl) (.int .i64 ((k2:Int)-1)) (by kernel_rfl) (fun w' _=>by go_simp;rw[IntKind.wrap_i64];omega) ?_;try simp only[PT]
 refine nQ 7 ?_;refine tQ [8] ?_;refine sQ 9 fun K hK=>?_;simp only[GO];refine wp_store_cell 53 55 _ _ rfl (fun w=>by kernel_rfl) tb 27 ((tn0 7 cn).cells h3Z hdZ).toArray (.int .i64 (k1:Int)) rfl rfl t2 (by show 27<30;decide) rfl rfl fun w3 t3 hw3=>?_;have x3:=x2.keepW hw3 (by simp;omega);refine hK _ _ ⟨⟨fun _=>x3,trivial⟩,?_⟩;clear hK K;try simp only[PT]
 refine nQ 10 ?_;refine tQ [11] ?_;refine sQ 12 fun K hK=>?_;simp only[GO];refine wp_store_cell 3 55 _ _ rfl (fun w=>by kernel_rfl) tb 28 _ (.int .i64 ((k2:Int)-1)) rfl rfl t3 (by rw[Array.size_setIfInBounds];show 28<30;decide) rfl rfl fun w4 t4 hw4=>?_;have x4:=x3.keepW hw4 (by simp;omega);have R4:=(R2.wrote hw3 (by simp;exact hB)).wrote hw4 (by simp;exact hB);refine hK _ _ ⟨⟨fun _=>x4,trivial⟩,?_⟩;clear hK K;try simp only[PT]
 refine dQ (hKQ.out _ _ _ ?_);have H:ReadP C B p tb (tn0 7 cn) l W (.returned (.tuple #[])) w4:=⟨(K2.trans (hw3.sub (by simp))).trans (hw4.sub (by simp)),.inr ⟨⟨{tn0 7 cn with arm:=(k1:Int),n:=(k2:Int)-1},h3Z,hdZ⟩,r2,by rw[rPart_7 (t:=tn0 7 cn) rfl,hx1,Option.bind_some];dsimp only;rw[hx2];rfl,rfl,R4,t4,fun M _=>InN.zero w4 _ ⟨rfl,rfl,rfl,rfl⟩ M⟩⟩
 go_end0
 exact H
theorem ix_str(g:FuncId)(lb:Array Value)(p:(List UInt8)->Bool){w:World}{a:Option Addr}{n c:Nat}{l:List (List UInt8)}(h:LsAt sCl 1 w a n c l)(eg:fnC g)
  (hg:∀W x,x∈l->Below w.heap.size w W->Calls prog g (#[sVl x]++lb) W (AnyP (p x) W)):Calls prog 242 #[.slice a n c,.func (.func g) #[] lb] w (IdxP (l.any p) w):=by
 have hle:=h.le;have hmax:=h.max;unfold maxLen at hmax;have hn:n<=9223372036854775807:=by omega
 have HL:=hid h.len;have HG:=hid hg;have HV:=hid h;unfold fnC at eg;clear hle hmax hg h;go_enter func242,ntmps242;go_wp2_with fail
 go_loopw [8] (fun i wr=>∃k:Nat,i=.int .i64 k/\k<=n/\Hid (Below w.heap.size w wr)/\Hid (∀j x,j<k->l[j]?=some x->p x=false)) (fun i _=>n-(intOf i).toNat)
 case atStart=>exact⟨0,rfl,Nat.zero_le _,hid bel_refl,hid fun j x hj=>absurd hj (Nat.not_lt_zero _)⟩
 case round=>
  obtain⟨k,rfl,hk,hB,hall⟩:=hrel;rcases Nat.lt_or_ge k n with hlt | hge
  ·obtain⟨x,hx⟩:∃x,l[k]?=some x:=⟨_,List.getElem?_eq_getElem (by rw[HL.out];exact hlt)⟩;obtain⟨g1,o1,ha,hr⟩:=HV.range hx;have hc:=hr _ hB.out;have CC:=hid (HG wr x (List.mem_of_getElem? hx) hB.out);subst ha;replace hx:=hid hx;clear hr;(have h0:=hc 0 (.string ⟨x.toArray⟩) rfl;simp only[Nat.mul_one,Nat.add_zero]at h0;unfold sVl at CC;clear hc);go_wp2_with fail
   refine CC.mono ?_;rintro e w1 ⟨rfl,hb1⟩;have HB1:=hid (hB.out.trans (hb1.mono hB.out.size));clear hb1;cases hp:p x with
   | false=>
    replace hp:=hid hp;go_wp2_with fail;go_roundw
    case rel=>
     refine⟨k+1,by go_num,by omega,HB1,hid fun j y hj hy=>?_⟩;by_cases hjk:j=k
     ·subst hjk;rw[hx.out]at hy;cases hy;exact hp.out
     exact hall.out j y (by omega) hy
    case measure=>simp[intOf];omega
   |true=>have hany:=hid (any_of hx.out hp);clear hp;go_wp2_with fail;go_ret;exact⟨_,rfl,⟨fun _=>hany.out,fun _=>by omega⟩,HB1.out⟩
  obtain rfl:k=n:=by omega
  have hno:=hid (any_no (p:=p) (l:=l) (fun j x hj=>hall.out j x (by have:=(List.getElem?_eq_some_iff.1 hj).1;have:=HL.out;omega) hj));go_wp2_with fail
  go_ret;exact⟨-1,rfl,⟨fun h=>by omega,fun h=>by rw[hno.out]at h;cases h⟩,hB.out⟩
theorem any_str(g:FuncId)(lb:Array Value)(p:(List UInt8)->Bool){w:World}{a:Option Addr}{n c:Nat}{l:List (List UInt8)}(h:LsAt sCl 1 w a n c l)(eg:fnC g)
  (hg:∀W x,x∈l->Below w.heap.size w W->Calls prog g (#[sVl x]++lb) W (AnyP (p x) W)):Calls prog 195 #[.slice a n c,.func (.func g) #[] lb] w (AnyP (l.any p) w):=by
 have HG:=hid (ix_str g lb p h eg hg);clear hg eg h;obtain⟨b,hb⟩:=gen_of (l.any p);rw[hb]at HG ⊢;clear hb;go_enter func195,ntmps195;go_wp2_with fail
 refine HG.mono ?_;rintro e w1 ⟨z,rfl,hz,hb1⟩;have HB1:=hid hb1;clear hb1;cases b with
 |true=>have h0:0<=z:=hz.2 rfl;clear hz;go_wp2_with fail;go_ret;exact⟨by simp[h0],HB1.out⟩
 |false=>
  have h0:¬0<=z:=fun h=>by have:=hz.1 h;cases this
  have d0:decide (0<=z)=false:=decide_eq_false h0;clear hz;go_wp2_with fail;go_ret;exact⟨by simp[h0],HB1.out⟩
theorem ix_want(g:FuncId)(lb:Array Value)(p:WantV->Bool){w:World}{a:Option Addr}{n c:Nat}{l:List WantV}(h:LsAt WantV.cl 2 w a n c l)(eg:fnC g)
  (hg:∀W x,x∈l->Below w.heap.size w W->Calls prog g (#[wVl x]++lb) W (AnyP (p x) W)):Calls prog 237 #[.slice a n c,.func (.func g) #[] lb] w (IdxP (l.any p) w):=by
 have hle:=h.le;have hmax:=h.max;unfold maxLen at hmax;have hn:n<=9223372036854775807:=by omega
 have HL:=hid h.len;have HG:=hid hg;have HV:=hid h;unfold fnC at eg;clear hle hmax hg h;go_enter func237,ntmps237;go_wp2_with fail
 go_loopw [8] (fun i wr=>∃k:Nat,i=.int .i64 k/\k<=n/\Hid (Below w.heap.size w wr)/\Hid (∀j x,j<k->l[j]?=some x->p x=false)) (fun i _=>n-(intOf i).toNat)
 case atStart=>exact⟨0,rfl,Nat.zero_le _,hid bel_refl,hid fun j x hj=>absurd hj (Nat.not_lt_zero _)⟩
 case round=>
  obtain⟨k,rfl,hk,hB,hall⟩:=hrel;rcases Nat.lt_or_ge k n with hlt | hge
  ·obtain⟨x,hx⟩:∃x,l[k]?=some x:=⟨_,List.getElem?_eq_getElem (by rw[HL.out];exact hlt)⟩;obtain⟨g1,o1,ha,hr⟩:=HV.range hx;have hc:=hr _ hB.out;have CC:=hid (HG wr x (List.mem_of_getElem? hx) hB.out);subst ha;replace hx:=hid hx;clear hr;(unfold wVl at CC);go_wp2_with (refine wLm 169 rfl rfl hc underlying169 ?_)
   refine CC.mono ?_;rintro e w1 ⟨rfl,hb1⟩;have HB1:=hid (hB.out.trans (hb1.mono hB.out.size));clear hb1;cases hp:p x with
   | false=>
    replace hp:=hid hp;go_wp2_with fail;go_roundw
    case rel=>
     refine⟨k+1,by go_num,by omega,HB1,hid fun j y hj hy=>?_⟩;by_cases hjk:j=k
     ·subst hjk;rw[hx.out]at hy;cases hy;exact hp.out
     exact hall.out j y (by omega) hy
    case measure=>simp[intOf];omega
   |true=>have hany:=hid (any_of hx.out hp);clear hp;go_wp2_with fail;go_ret;exact⟨_,rfl,⟨fun _=>hany.out,fun _=>by omega⟩,HB1.out⟩
  obtain rfl:k=n:=by omega
  have hno:=hid (any_no (p:=p) (l:=l) (fun j x hj=>hall.out j x (by have:=(List.getElem?_eq_some_iff.1 hj).1;have:=HL.out;omega) hj));go_wp2_with fail
  go_ret;exact⟨-1,rfl,⟨fun h=>by omega,fun h=>by rw[hno.out]at h;cases h⟩,hB.out⟩
theorem any_want(g:FuncId)(lb:Array Value)(p:WantV->Bool){w:World}{a:Option Addr}{n c:Nat}{l:List WantV}(h:LsAt WantV.cl 2 w a n c l)(eg:fnC g)
  (hg:∀W x,x∈l->Below w.heap.size w W->Calls prog g (#[wVl x]++lb) W (AnyP (p x) W)):Calls prog 188 #[.slice a n c,.func (.func g) #[] lb] w (AnyP (l.any p) w):=by
 have HG:=hid (ix_want g lb p h eg hg);clear hg eg h;obtain⟨b,hb⟩:=gen_of (l.any p);rw[hb]at HG ⊢;clear hb;go_enter func188,ntmps188;go_wp2_with fail
 refine HG.mono ?_;rintro e w1 ⟨z,rfl,hz,hb1⟩;have HB1:=hid hb1;clear hb1;cases b with
 |true=>have h0:0<=z:=hz.2 rfl;clear hz;go_wp2_with fail;go_ret;exact⟨by simp[h0],HB1.out⟩
 |false=>
  have h0:¬0<=z:=fun h=>by have:=hz.1 h;cases this
  have d0:decide (0<=z)=false:=decide_eq_false h0;clear hz;go_wp2_with fail;go_ret;exact⟨by simp[h0],HB1.out⟩
theorem pk_fit1_int(f:FuncId)(cap:Array Value)(b:Bool)(x:Int)(bx:Nat)(W:World)(ef:fnC f)(hb:Boxed W bx 110 (.func (.func f) #[] cap))(hf:∀W',Below W.heap.size W W'->Calls prog f (#[iVl x]++cap) W' (AnyP b W')):Calls prog 194 #[iVl x,.pointer (some ⟨bx,0,none⟩)] W (AnyP (!b) W):=by
 (have CF:=hid (hf W bel_refl);have B0:Hid (Below W.heap.size W W):=hid bel_refl;have k0:=hb.cell;unfold iVl at*)
 unfold fnC at ef;go_enter func194,ntmps194;go_wp2_with fail
 refine CF.mono ?_;rintro e w1 ⟨rfl,hb1⟩;have HB:=hid (B0.trans (hb1.mono B0.size));clear hb1;go_wp2_with fail;go_ret;exact⟨rfl,HB.out⟩
theorem pk_fit_int(f:FuncId)(cap:Array Value)(pb:Int->Bool){w:World}{a:Option Addr}{n c:Nat}{l:List Int}(h:LsAt iCl 1 w a n c l)(ef:fnC f)(hf:∀W x,x∈l->Below w.heap.size w W->Calls prog f (#[iVl x]++cap) W (AnyP (pb x) W)):
  Calls prog 144 #[.slice a n c,.func (.func f) #[] cap] w (AnyP (fitL l pb) w):=by
 have hmf:∀(fn:Fn)(first cap:Array Value)(w:World),(Instr.makeFunc fn first cap).run prog w=.ok (.func fn first cap) w:=fun _ _ _ _=>rfl;have HL:l.length=n:=h.len;obtain⟨W0,hW0⟩:=gen_of (w.alloc (.cells #[.func (.func f) #[] cap] 110));have b0:Below w.heap.size w W0:=by rw[<-hW0];exact bel_refl.alloc nat_le_rfl _
 have x0:Boxed W0 w.heap.size 110 (.func (.func f) #[] cap):=by rw[<-hW0];exact Boxed.new _ _ _
 have CA:=hid (any_int 194 #[.pointer (some ⟨w.heap.size,0,none⟩)] (fun x=> !pb x) (h.below b0) (enters_of func194 (by kernel_rfl) rfl) (fun W x hx hb=>pk_fit1_int f cap (pb x) x w.heap.size W ef (boxed_below x0 hb) (fun W' hb'=>hf W' x hx ((b0.trans (hb.mono b0.size)).trans (hb'.mono (b0.trans (hb.mono b0.size)).size)))));have hall:fitL l pb=(decide (1<=n)&&decide (n<=8)&& !(l.any fun x=> !pb x)):=by unfold fitL;rw[HL,List.not_any_eq_all_not];simp
 obtain⟨q,hq⟩:=gen_of (l.any fun x=> !pb x);rw[hq]at CA hall;rw[hall];have B0:=hid b0;clear hq hall HL h hf b0 x0;by_cases h1:1<=n
 ·have d1:decide (1<=(n:Int))=true:=decide_eq_true (by omega);by_cases h8:n<=8
  ·have d8:decide ((n:Int)<=8)=true:=decide_eq_true (by omega);go_enter func144,ntmps144;go_wp2_with fail
   refine CA.mono ?_;rintro e w1 ⟨rfl,hb1⟩;have HB:=hid (B0.trans (hb1.mono B0.size));clear hb1;go_wp2_with fail;go_ret;exact⟨by simp[h1,h8],HB.out⟩
  have d8:decide ((n:Int)<=8)=false:=decide_eq_false (by omega);go_enter func144,ntmps144;go_wp2_with fail
  go_ret;exact⟨by simp[h8],B0.out⟩
 have d1:decide (1<=(n:Int))=false:=decide_eq_false (by omega);go_enter func144,ntmps144;go_wp2_with fail
 go_ret;exact⟨by simp[h1],B0.out⟩
theorem pk_fit1_str(f:FuncId)(cap:Array Value)(b:Bool)(x:(List UInt8))(bx:Nat)(W:World)(ef:fnC f)(hb:Boxed W bx 184 (.func (.func f) #[] cap))(hf:∀W',Below W.heap.size W W'->Calls prog f (#[sVl x]++cap) W' (AnyP b W')):Calls prog 196 #[sVl x,.pointer (some ⟨bx,0,none⟩)] W (AnyP (!b) W):=by
 (have CF:=hid (hf W bel_refl);have B0:Hid (Below W.heap.size W W):=hid bel_refl;have k0:=hb.cell;unfold sVl at*)
 unfold fnC at ef;go_enter func196,ntmps196;go_wp2_with fail
 refine CF.mono ?_;rintro e w1 ⟨rfl,hb1⟩;have HB:=hid (B0.trans (hb1.mono B0.size));clear hb1;go_wp2_with fail;go_ret;exact⟨rfl,HB.out⟩
theorem pk_fit_str(f:FuncId)(cap:Array Value)(pb:(List UInt8)->Bool){w:World}{a:Option Addr}{n c:Nat}{l:List (List UInt8)}(h:LsAt sCl 1 w a n c l)(ef:fnC f)(hf:∀W x,x∈l->Below w.heap.size w W->Calls prog f (#[sVl x]++cap) W (AnyP (pb x) W)):
  Calls prog 152 #[.slice a n c,.func (.func f) #[] cap] w (AnyP (fitL l pb) w):=by
 have hmf:∀(fn:Fn)(first cap:Array Value)(w:World),(Instr.makeFunc fn first cap).run prog w=.ok (.func fn first cap) w:=fun _ _ _ _=>rfl;have HL:l.length=n:=h.len;obtain⟨W0,hW0⟩:=gen_of (w.alloc (.cells #[.func (.func f) #[] cap] 184));have b0:Below w.heap.size w W0:=by rw[<-hW0];exact bel_refl.alloc nat_le_rfl _
 have x0:Boxed W0 w.heap.size 184 (.func (.func f) #[] cap):=by rw[<-hW0];exact Boxed.new _ _ _
 have CA:=hid (any_str 196 #[.pointer (some ⟨w.heap.size,0,none⟩)] (fun x=> !pb x) (h.below b0) (enters_of func196 (by kernel_rfl) rfl) (fun W x hx hb=>pk_fit1_str f cap (pb x) x w.heap.size W ef (boxed_below x0 hb) (fun W' hb'=>hf W' x hx ((b0.trans (hb.mono b0.size)).trans (hb'.mono (b0.trans (hb.mono b0.size)).size)))));have hall:fitL l pb=(decide (1<=n)&&decide (n<=8)&& !(l.any fun x=> !pb x)):=by unfold fitL;rw[HL,List.not_any_eq_all_not];simp
 obtain⟨q,hq⟩:=gen_of (l.any fun x=> !pb x);rw[hq]at CA hall;rw[hall];have B0:=hid b0;clear hq hall HL h hf b0 x0;by_cases h1:1<=n
 ·have d1:decide (1<=(n:Int))=true:=decide_eq_true (by omega);by_cases h8:n<=8
  ·have d8:decide ((n:Int)<=8)=true:=decide_eq_true (by omega);go_enter func152,ntmps152;go_wp2_with fail
   refine CA.mono ?_;rintro e w1 ⟨rfl,hb1⟩;have HB:=hid (B0.trans (hb1.mono B0.size));clear hb1;go_wp2_with fail;go_ret;exact⟨by simp[h1,h8],HB.out⟩
  have d8:decide ((n:Int)<=8)=false:=decide_eq_false (by omega);go_enter func152,ntmps152;go_wp2_with fail
  go_ret;exact⟨by simp[h8],B0.out⟩
 have d1:decide (1<=(n:Int))=false:=decide_eq_false (by omega);go_enter func152,ntmps152;go_wp2_with fail
 go_ret;exact⟨by simp[h1],B0.out⟩
theorem pk_fit1_want(f:FuncId)(cap:Array Value)(b:Bool)(x:WantV)(bx:Nat)(W:World)(ef:fnC f)(hb:Boxed W bx 191 (.func (.func f) #[] cap))(hf:∀W',Below W.heap.size W W'->Calls prog f (#[wVl x]++cap) W' (AnyP b W')):Calls prog 189 #[wVl x,.pointer (some ⟨bx,0,none⟩)] W (AnyP (!b) W):=by
 (obtain⟨W0,hW0⟩:=gen_of (W.alloc (.cells #[.string ⟨x.filter.toArray⟩,.int .i64 x.qos] 169)));have b0:Below W.heap.size W W0:=(by subst hW0;exact bel_refl.alloc nat_le_rfl _);have x0:Blk W0 W.heap.size #[.string ⟨x.filter.toArray⟩,.int .i64 x.qos] 169:=(by subst hW0;exact Blk.new _ _ _);have CF:=hid (hf W0 b0);have B0:=hid b0;have k0:=(boxed_below hb b0).cell;unfold wVl at*
 unfold fnC at ef;go_enter func189,ntmps189;go_wp2_with (refine wL 169 rfl rfl x0 underlying169 ?_)
 refine CF.out.mono ?_;rintro e w1 ⟨rfl,hb1⟩;have HB:=hid (B0.trans (hb1.mono B0.size));clear hb1;go_wp2_with fail;go_ret;exact⟨rfl,HB.out⟩
theorem pk_fit_want(f:FuncId)(cap:Array Value)(pb:WantV->Bool){w:World}{a:Option Addr}{n c:Nat}{l:List WantV}(h:LsAt WantV.cl 2 w a n c l)(ef:fnC f)(hf:∀W x,x∈l->Below w.heap.size w W->Calls prog f (#[wVl x]++cap) W (AnyP (pb x) W)):
  Calls prog 133 #[.slice a n c,.func (.func f) #[] cap] w (AnyP (fitL l pb) w):=by
 have hmf:∀(fn:Fn)(first cap:Array Value)(w:World),(Instr.makeFunc fn first cap).run prog w=.ok (.func fn first cap) w:=fun _ _ _ _=>rfl;have HL:l.length=n:=h.len;obtain⟨W0,hW0⟩:=gen_of (w.alloc (.cells #[.func (.func f) #[] cap] 191));have b0:Below w.heap.size w W0:=by rw[<-hW0];exact bel_refl.alloc nat_le_rfl _
 have x0:Boxed W0 w.heap.size 191 (.func (.func f) #[] cap):=by rw[<-hW0];exact Boxed.new _ _ _
 have CA:=hid (any_want 189 #[.pointer (some ⟨w.heap.size,0,none⟩)] (fun x=> !pb x) (h.below b0) (enters_of func189 (by kernel_rfl) rfl) (fun W x hx hb=>pk_fit1_want f cap (pb x) x w.heap.size W ef (boxed_below x0 hb) (fun W' hb'=>hf W' x hx ((b0.trans (hb.mono b0.size)).trans (hb'.mono (b0.trans (hb.mono b0.size)).size)))));have hall:fitL l pb=(decide (1<=n)&&decide (n<=8)&& !(l.any fun x=> !pb x)):=by unfold fitL;rw[HL,List.not_any_eq_all_not];simp
 obtain⟨q,hq⟩:=gen_of (l.any fun x=> !pb x);rw[hq]at CA hall;rw[hall];have B0:=hid b0;clear hq hall HL h hf b0 x0;by_cases h1:1<=n
 ·have d1:decide (1<=(n:Int))=true:=decide_eq_true (by omega);by_cases h8:n<=8
  ·have d8:decide ((n:Int)<=8)=true:=decide_eq_true (by omega);go_enter func133,ntmps133;go_wp2_with fail
   refine CA.mono ?_;rintro e w1 ⟨rfl,hb1⟩;have HB:=hid (B0.trans (hb1.mono B0.size));clear hb1;go_wp2_with fail;go_ret;exact⟨by simp[h1,h8],HB.out⟩
  have d8:decide ((n:Int)<=8)=false:=decide_eq_false (by omega);go_enter func133,ntmps133;go_wp2_with fail
  go_ret;exact⟨by simp[h8],B0.out⟩
 have d1:decide (1<=(n:Int))=false:=decide_eq_false (by omega);go_enter func133,ntmps133;go_wp2_with fail
 go_ret;exact⟨by simp[h1],B0.out⟩
theorem pk_code(c:Int)(W:World):Calls prog 145 #[.int .i64 c] W (AnyP (mayCode c) W):=by
 have CQ:=hid (pk_qos c W);unfold mayCode;obtain⟨b,hb⟩:=gen_of (within c 0 2);rw[hb]at CQ ⊢;clear hb;by_cases h:c=128
 ·subst h;go_enter func145,ntmps145;go_wp2_with fail
  refine CQ.mono ?_;rintro e w1 ⟨rfl,rfl⟩;cases b<;>
  ·go_wp2_with fail
   go_ret;exact⟨by simp,Below.refl _ _⟩
 have d:(c==128)=false:=by simpa using h
 go_enter func145,ntmps145;go_wp2_with fail
 refine CQ.mono ?_;rintro e w1 ⟨rfl,rfl⟩;cases b<;>
 ·go_wp2_with fail
  go_ret;exact⟨by simp[h],Below.refl _ _⟩
theorem pk_want(x:WantV)(W:World)(hs:x.filter.length<=2000000):Calls prog 134 #[wVl x] W (AnyP (mayWant x) W):=by
 unfold wVl;obtain⟨W0,hW0⟩:=gen_of (W.alloc (.cells #[.string ⟨x.filter.toArray⟩,.int .i64 x.qos] 169));have b0:Below W.heap.size W W0:=by rw[<-hW0];exact bel_refl.alloc nat_le_rfl _
 have x0:Blk W0 W.heap.size #[.string ⟨x.filter.toArray⟩,.int .i64 x.qos] 169:=by rw[<-hW0];exact Blk.new _ _ _
 have k0:W0.cell? ⟨W.heap.size,0,none⟩=some (.string ⟨x.filter.toArray⟩):=x0.cell 0;have CT:=hid (topic_Filter2 x.filter W0 hs);have CQ:=hid (pk_qos x.qos);unfold mayWant;obtain⟨fv,hfv⟩:=gen_of (filterR x.filter);obtain⟨b,hb⟩:=gen_of (within x.qos 0 2);rw[hfv]at CT ⊢;rw[hb]at CQ ⊢;have X0:=hid x0;have B0:=hid b0;clear hb hfv x0 b0;go_enter func134,ntmps134;go_wp2_with fail
 refine CT.mono ?_;rintro e w1 ⟨rfl,hb1⟩;have k1:w1.cell? ⟨W.heap.size,1,none⟩=some (.int .i64 x.qos):=(X0.below hb1).cell 1;have B1:=hid (B0.trans (hb1.mono B0.size));clear hb1 k0;cases fv with
 |false=>
  go_wp2_with fail
  go_ret;exact⟨rfl,B1.out⟩
 | true=>
  go_wp2_with fail
  refine(CQ _).mono ?_;rintro e w2 ⟨rfl,rfl⟩;cases b<;>
  ·go_wp2_with fail
   go_ret;exact⟨rfl,B1.out⟩
theorem conv_bytes(s:List UInt8)(w:World)(h:s.length<=4611686018427387904):∃c w',(convert 9 22 (.string ⟨s.toArray⟩)).run prog w=.ok (.slice (some ⟨w.heap.size,0,none⟩) s.length c) w'/\RowAt w' (some ⟨w.heap.size,0,none⟩) s.length c (bs s)/\Below w.heap.size w w':=by
 have h1:=run_bytes_of_string (P:=prog) w 9 22 5 ⟨s.toArray⟩ underlying9 underlying22 underlying5;have hsz:ByteArray.size ⟨s.toArray⟩=s.length:=by simp[ByteArray.size]
 have hge:=grownCap_ge w s.length 0 5;have hle:=grownCap_le_maxLen w s.length 0 5 (by unfold maxLen;omega);rw[hsz]at h1;obtain⟨cp,hcp⟩:=gen_of (grownCap w s.length 0 5);rw[hcp]at h1 hge hle;obtain⟨cs,hcs⟩:=gen_of (bytesRow ⟨s.toArray⟩ cp);rw[hcs]at h1;have hl:cs.size=cp:=by rw[<-hcs];unfold bytesRow;rw[hsz];simp;omega
 refine⟨cp,_,h1,?_,((Below.refl w.heap.size w).drew).alloc nat_le_rfl _⟩;have hr:=(RowAt.new w.drew cs 5 (cs.size,cs.size+1) (by rw[hl];exact hle)).take s.length (by omega);have hc:RowAt (w.drew.alloc (.cells cs 5 (cs.size,cs.size+1))) (some ⟨w.heap.size,0,none⟩) s.length cp (cs.toList.take s.length):=hl▸hr;have he:cs.toList.take s.length=bs s:=by rw[<-hcs];unfold bytesRow bs;rw[Array.toList_append,List.take_append_of_le_length (by simp),List.take_of_length_le (by simp)];simp
 rw[he]at hc;exact hc
structure PkN (w:World)(p:Pk)(h:H3)(M:List Nat):Prop where
 lw:LsN WantV.cl 2 w h.w p.wants M
 lc:LsN iCl 1 w h.c p.codes M
 lf:LsN sCl 1 w h.f p.filters M
def ParsePkOK(C:PkCode):Prop:=∀W a n c s,RowAt W a n c (bs s)->n<=65536->Calls prog 57 #[.slice a n c] W fun e w'=>Below W.heap.size W w'/\
 ∃(y:Pk)(h:H3)(z:Int),e=.returned (.tuple #[.agg (y.cells h).toArray,.int .i64 z])/\((z=0/\C.parse s=some y)\/(z≠0/\C.parse s=none))/\∀M,(∀b∈M,b<W.heap.size)->PkN w' y h M
def zPc:Array Value:=((zPk 0).cells h3Z).toArray
theorem sc_read9(C:PkCode)(hP:ParsePkOK C)(W:World)(B p tb:Nat)(l:List UInt8)(cn:Int)(hR:Rd W B p l)(hb:Blk W tb ((tn0 2 cn).cells h3Z hdZ).toArray 55)(hB:B<=tb):
  Calls prog 56 #[.agg #[.pointer (some ⟨p,0,none⟩)],.pointer (some ⟨tb,0,none⟩)] W (ReadP C B p tb (tn0 2 cn) l W):=by
 have CM:=hid sc_must;obtain⟨W0,hW0⟩:=gen_of (W.alloc (.cells #[.pointer (some ⟨p,0,none⟩)] 61));have b0:Below W.heap.size W W0:=by rw[<-hW0];exact bel_refl.alloc nat_le_rfl _
 have hx0:Blk W0 W.heap.size #[.pointer (some ⟨p,0,none⟩)] 61:=by rw[<-hW0];exact Blk.new _ _ _
 have CX:=hid (sc_rtext (hR.below b0));have HB1:=hid (hb.below b0);have K0:Hid (Wrote [p,tb] W W0):=hid (Wrote.of_below b0);have hpb:=hR.lt;have hbs:=hR.base;have htl:=hid hb.lt;have s0:=hid b0.size;clear hb b0 hR;go_enter func56,ntmps56;go_wp2_with (refine wL 61 rfl rfl hx0 underlying61 ?_)
 refine CX.mono ?_;rintro e w1 (⟨hno,rfl,hw1⟩ | ⟨⟨s,r⟩,hx,rfl,hR1,hw1⟩)
 ·refine⟨rfl,K0.trans (hw1.sub (by simp)),.inl ⟨?_,rfl⟩⟩;rw[rPart_2 (t:=tn0 2 cn) rfl,hno];rfl
 dsimp only at hR1 ⊢;have hsl:s.length<=65536:=by have:=(rTxt_some hx).2;omega
 obtain⟨cp,w2,hcv,hrow,hb2⟩:=conv_bytes s w1 (by omega);have ht2:=hid ((HB1.keepW hw1 (by simp;omega)).below hb2);have hR2:=hid (hR1.below hb2);have K2:=hid ((K0.trans (hw1.sub (by simp))).trans (Wrote.of_below hb2));have CP:=hid (hP w2 (some ⟨w1.heap.size,0,none⟩) s.length cp s hrow hsl);have hx:=hid hx;clear hw1 hR1 hrow hb2 hsl;go_upto_region 2 with fail;refine CP.mono ?_;rintro e w3 ⟨hb3,y,h,z,rfl,hz,hN⟩;have hone:Hid (∀v∈(y.cells h).toArray.toList,v.oneCell'=true):=hid (Pk.one y h);obtain⟨yc,hyc⟩:=gen_of ((y.cells h).toArray);have hys:Hid (yc.size=24):=hid (by rw[<-hyc];rfl);have iy:(prog.info? 52).map (·.size)=some yc.size:=by rw[hys];exact(by kernel_rfl:(prog.info? 52).map (·.size)=some 24)
 rw[hyc]at hone ⊢;have hyc:=hid hyc;have hN:=hid hN;have HB3:=hid hb3;have ht3:=hid (ht2.below hb3);have hR3:=hid (hR2.below hb3);have K3:=hid (K2.trans (Wrote.of_below hb3));have s3:=hid hb3.size;clear hb3;replace hz:=hid hz;go_upto_region 2 with(refine wS 52 24 rfl _ _ yc rfl rfl (Blk.new _ _ _) hys.out rfl hone.out ?_;intro w4 hw4 hr4);have hz3:w3.heap.size+1<=w4.heap.size:=by have:=hr4.size;simp at this;omega
 have hb34:=hid (((Below.refl w3.heap.size w3).alloc nat_le_rfl _).trans (hr4.below (n₀:=w3.heap.size) (by simp) (by simp)));have ht4:=ht3.below hb34.out;have K4:=hid (K3.trans (Wrote.of_below hb34.out));clear hr4;by_cases h0:z=0
 ·subst h0;have hpk:Hid (C.parse s=some y):=hid (by rcases hz.out with⟨-,h⟩ | ⟨h, -⟩;exact h;exact absurd rfl h);obtain⟨tc,htc⟩:=gen_of (((tn0 2 cn).cells h3Z hdZ).toArray);have hts:Hid (tc.size=30):=hid (by rw[<-htc];rfl);have hty:Hid (splice tc 2 yc=(({tn0 2 cn with pk:=y}:Tn).cells h hdZ).toArray):=hid (by rw[<-htc,<-hyc.out];rfl);rw[htc]at ht4;clear htc hz;go_wp2_with (first
   | (go_at_call 19;refine(CM _ _ _).mono ?_;rintro e w9 ⟨rfl,rfl⟩)
   | (refine wL 52 rfl rfl hw4 underlying52 ?_ rfl rfl iy)
   | (refine wpList_store_mid rfl 52 55 _ _ rfl 24 (fun w=>by kernel_rfl) tb 2 tc yc rfl rfl ht4 hys.out (by rw[hts];decide) hone.out ?_;intro w5 hw5 hr5))
  rw[hty]at hw5;have hR5:=(hR3.below hb34.out).wrote hr5 (by simp;exact hB);have H:ReadP C B p tb (tn0 2 cn) l W (.returned (.tuple #[])) w5:=⟨K4.trans (hr5.sub (by simp)),.inr ⟨⟨{tn0 2 cn with pk:=y},h,hdZ⟩,r,by rw[rPart_2 (t:=tn0 2 cn) rfl,hx.out,Option.bind_some];dsimp only;rw[hpk];rfl,rfl,hR5,hw5,fun M hM=>?_⟩⟩
  ·go_end0
   exact H
  have hk:=hN (tb::M) (fun b hb=>by
   have h1:=K2.size;have h2:=htl.out;rcases List.mem_cons.1 hb with rfl | hb
   ·omega
   have:=hM b hb;omega)
  have st:∀{α:Type}{f:α->List Value}{sz:Nat}{hd:Hd}{xs:List α},LsN f sz w3 hd xs (tb::M)->LsN f sz w5 hd xs M:=fun k=>(k.step (Wrote.of_below (M:=[]) hb34.out) (fun b hb=>by cases hb) (fun b hb=>.inl hb)).step hr5 (fun b hb=>.inl (by simp at hb;simp[hb])) (fun b hb=>.inl (List.mem_cons_of_mem _ hb))
  exact⟨st hk.lw,st hk.lc,st hk.lf,LsN.nil w5 M⟩
 have d0:(z==0)=false:=by simpa using h0
 have hpk:Hid (C.parse s=none):=hid (by rcases hz.out with⟨h, -⟩ | ⟨-,h⟩;exact absurd h h0;exact h);clear hz ht4 hw4;go_wp2_with (go_at_call 19;refine(CM _ _ _).mono ?_;rintro e w9 ⟨rfl,rfl⟩);refine⟨rfl,K4.out,.inl ⟨?_,rfl⟩⟩;rw[rPart_2 (t:=tn0 2 cn) rfl,hx.out,Option.bind_some];dsimp only;rw[hpk];rfl
theorem readDo_of(C:PkCode)(hP:ParsePkOK C)(k:Int):ReadDo C k:=fun c v hv=>by
 have hk8:1<=k/\k<=8:=by refine Classical.byContradiction fun h=>?_;unfold kindG at hv;rw[if_neg (by omega),if_neg (by omega),if_neg (by omega),if_neg (by omega),if_neg (by omega),if_neg (by omega),if_neg (by omega),if_neg (by omega)]at hv;cases hv
 have:k=1\/k=2\/k=3\/k=4\/k=5\/k=6\/k=7\/k=8:=by omega
 rcases this with rfl | rfl | rfl | rfl | rfl | rfl | rfl | rfl
 ·obtain rfl:bareV=v:=Option.some.inj hv;refine⟨_,_,_,_,_,_,_,_,rfl,enters_of func48 (by kernel_rfl) rfl,fun W B p l tb cn hR hb hB=>?_⟩;exact sc_read_none C 1 (by decide) W B p tb l cn hR hb
 ·obtain rfl:sayV c=v:=Option.some.inj hv;refine⟨_,_,_,_,_,_,_,_,rfl,enters_of func56 (by kernel_rfl) rfl,fun W B p l tb cn hR hb hB=>?_⟩;exact sc_read9 C hP W B p tb l cn hR hb hB
 ·obtain rfl:bytesV c=v:=Option.some.inj hv;refine⟨_,_,_,_,_,_,_,_,rfl,enters_of func61 (by kernel_rfl) rfl,fun W B p l tb cn hR hb hB=>?_⟩;exact sc_read13 C W B p tb l cn hR hb hB
 ·obtain rfl:bareV=v:=Option.some.inj hv;refine⟨_,_,_,_,_,_,_,_,rfl,enters_of func48 (by kernel_rfl) rfl,fun W B p l tb cn hR hb hB=>?_⟩;exact sc_read_none C 4 (by decide) W B p tb l cn hR hb
 ·obtain rfl:emptyV=v:=Option.some.inj hv;refine⟨_,_,_,_,_,_,_,_,rfl,enters_of func48 (by kernel_rfl) rfl,fun W B p l tb cn hR hb hB=>?_⟩;exact sc_read_none C 5 (by decide) W B p tb l cn hR hb
 ·obtain rfl:emptyV=v:=Option.some.inj hv;refine⟨_,_,_,_,_,_,_,_,rfl,enters_of func48 (by kernel_rfl) rfl,fun W B p l tb cn hR hb hB=>?_⟩;exact sc_read_none C 6 (by decide) W B p tb l cn hR hb
 ·obtain rfl:armV=v:=Option.some.inj hv;refine⟨_,_,_,_,_,_,_,_,rfl,enters_of func66 (by kernel_rfl) rfl,fun W B p l tb cn hR hb hB=>?_⟩;exact sc_read17 C W B p tb l cn hR hb hB
 obtain rfl:crashV=v:=Option.some.inj hv;refine⟨_,_,_,_,_,_,_,_,rfl,enters_of func72 (by kernel_rfl) rfl,fun W B p l tb cn hR hb hB=>?_⟩;exact sc_read21 C W B p tb l cn hR hb hB
end
end Go.Proofs.YtkghejaimhoboaaGreatDoor
