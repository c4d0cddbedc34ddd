/- Parts of the proof of ScriptTurns. -/
import Derived.Test.YtkghejaimhoboaaGreatDoorPk11
import Derived.Lib.AppendStr
import Derived.Laws.Cover3
import Derived.Laws.Bits64
import Derived.Laws.Bits64b
import Derived.Test.YtkghejaimhoboaaGreatDoorPk13
set_option linter.unusedSimpArgs false
set_option linter.unusedVariables false
set_option maxRecDepth 100000
set_option maxHeartbeats 8000000
namespace Go.Proofs.YtkghejaimhoboaaGreatDoor
open Go.RowKit Go.Shelf Go.Proofs.Tryz
section
attribute [local go_sem] Oper.semAt_some
theorem lZ(l m:List UInt8):bs (l++m)=bs l++bs m:=by simp[bs]
structure Wr (w:World)(F:List Nat)(p:Nat)(l:List UInt8):Prop where
 out:∃v,F=p::blk v/\ar w p #[v,.bool true] 170/\w.ownsRow 0 5 1 v l.length (bs l)/\p∉blk v
theorem Wr.ag{w w':World}{F:List Nat}{p:Nat}{l:List UInt8}(h:Wr w F p l)(hb:Below w.heap.size w w'):Wr w' F p l:=by obtain⟨v,h0,h1,h2,h3⟩:=h.out;exact⟨v,h0,h1.ag hb,aB h2 hb,h3⟩
theorem Wr.alloc{w:World}{F:List Nat}{p:Nat}{l:List UInt8}(h:Wr w F p l)(o:Obj):Wr (w.alloc o) F p l:=h.ag (ai.alloc ah o)
theorem Wr.lt{w:World}{F:List Nat}{p:Nat}{l:List UInt8}(h:Wr w F p l):∀x∈F,x<w.heap.size:=by
 obtain⟨v,rfl,h1,h2,_⟩:=h.out;intro x hx;rcases List.mem_cons.1 hx with rfl | hx
 ·exact h1.lt
 exact yi h2 hx
theorem Wr.wrote{w w':World}{F:List Nat}{p:Nat}{l:List UInt8}(h:Wr w F p l){M:List Nat}(hw:ak M w w')(hM:∀x∈F,x∉M):Wr w' F p l:=by obtain⟨v,rfl,h1,h2,h3⟩:=h.out;exact⟨v,rfl,h1.aw hw (hM _ (List.mem_cons_self ..)),fW h2 hw (fun x hx hb=>hM x (List.mem_cons_of_mem _ hb) hx),h3⟩
theorem m0(w:World):Calls prog 79 #[] w fun e w'=>e=.returned (.pointer (some ⟨w.heap.size,0,none⟩))/\Wr w' [w.heap.size] w.heap.size []/\Below w.heap.size w w':=by
 go_enter func79,ntmps79;go_wp2_with fail
 go_ret;exact⟨rfl,⟨.slice none 0 0,rfl,ar.new _ _ _,⟨rfl,.inl ⟨rfl,rfl⟩⟩,by simp[blk,Value.ownBlock]⟩,ai.alloc ah _⟩
theorem px{w:World}{F:List Nat}{p:Nat}{l:List UInt8}(h:Wr w F p l):Calls prog 104 #[.pointer (some ⟨p,0,none⟩)] w fun e w'=>e=.returned (.bool false)/\w=w':=by obtain⟨v,h0,h1,h2,h3⟩:=h.out;have k1:=h1.cell 1;go_enter func104,ntmps104;go_wp2;go_ret;exact⟨rfl,rfl⟩
theorem xA(k:Int)(w:World):Calls prog 89 #[.int .i64 k] w fun e w'=>e=.returned (.bool (decide (1<=k)&&decide (k<=8)))/\w=w':=by
 by_cases h1:1<=k<;>by_cases h2:k<=8<;>
 ·go_enter func89,ntmps89;go_wp2;go_ret
  first | exact⟨rfl,rfl⟩ | simp[h1,h2]
theorem Fk:∀(k n j:Nat),j<k->(ay k n)[j]?=some (UInt8.ofNat (n / 256^(k-1-j)%256))
 | 0,n,j,h=>by omega
 | k+1,n,j,h=>by
  unfold ay;rcases Nat.lt_or_ge j k with hj | hj
  ·rw[List.getElem?_append_left (by rw[aO];exact hj),Fk k (n / 256) j hj,Nat.div_div_eq_div_mul,<-Nat.pow_succ',show(k-1-j).succ=k+1-1-j by omega]
  obtain rfl:j=k:=by omega
  rw[List.getElem?_append_right (by rw[aO];exact Nat.le_refl _),aO];simp
theorem Hf(k n j:Nat)(h:j<k):(ay k n).take (j+1)=(ay k n).take j++[UInt8.ofNat (n / 256^(k-1-j)%256)]:=by rw[List.take_add_one,Fk k n j h];rfl
theorem xB(n k:Nat)(gW:1<=k)(hk:k<=8)(w:World):
  Calls prog 161 #[.slice none 0 0,.int .u64 n,.int .i64 k] w fun e w'=>∃v,e=.returned v/\w'.ownsRow w.heap.size 5 1 v k (bs (ay k n))/\Below w.heap.size w w':=by
 go_enter func161,ntmps161;go_wp2_with fail
 go_loopw [0,7] (fun v i wr=>∃j:Nat,j<=k/\i=.int .i64 ((k:Int)-1-j)/\wr.ownsRow w.heap.size 5 1 v j (bs ((ay k n).take j))/\Below w.heap.size w wr) (fun _ i _=>(intOf i+1).toNat)
 case atStart=>exact⟨0,Nat.zero_le _,by go_num,World.ownsRow_nil _ _ _ _,Below.refl _ _⟩
 case round=>
  obtain⟨j,hj,rfl,how,bK⟩:=hrel;by_cases hlt:j<k
  ·obtain⟨y,hy⟩:=ae (UInt8.ofNat (n / 256^(k-1-j)%256):UInt8);have hyn:(n:Int) / 2^(8*(k-1-j))%256=(y.toNat:Int):=by
    have e:(2:Int)^(8*(k-1-j))=((256^(k-1-j):Nat):Int):=by rw[Int.pow_mul];simp
    rw[<-hy,gv _ (Nat.mod_lt _ (by decide)),e];rfl
   have hs:bs ((ay k n).take (j+1))=bs ((ay k n).take j)++[.int .u8 y.toNat]:=by rw[Hf k n j hlt,hy,tB]
   obtain⟨xs,pS⟩:=ae (bs ((ay k n).take j));rw[pS]at how hs;replace hs:=af hs;clear pS hy;have hsz:=bK.size;go_wp2_with (at_builtin;refine dt rfl _ _ rfl Tryz.rY w.heap.size _ _ _ rfl how (.int .u8 y.toNat) rfl rfl (by omega) (by omega) (by omega) ?_;intro v' w4 dI hg4)
   go_roundw
   case rel=>refine⟨j+1,by omega,by go_num,?_,bK.grown hg4 (by omega) (fun q hq=>(how.lt q hq).1)⟩;rw[hs.out];exact dI
   case measure=>simp[intOf];omega
  obtain rfl:j=k:=by omega
  rw[List.take_of_length_le (by rw[aO];exact Nat.le_refl _)]at how;go_wp2;go_ret;exact⟨_,rfl,how,bK⟩
theorem Ag{w:World}{F:List Nat}{p:Nat}{l:List UInt8}(h:Wr w F p l)(hl:l.length<=65536)(uK:Nat)(u:Value)(m:List UInt8)(hu:w.ownsRow uK 5 1 u m.length (bs m))(hn:m.length<=70368744177664):
  Calls prog 160 #[.pointer (some ⟨p,0,none⟩),u] w fun e w'=>∃(ok:Bool)(F':List Nat),ok=decide (l.length+m.length<=65536)/\e=.returned (.int .i64 (if ok then 0 else 3))/\Wr w' F' p (if ok then l++m else l)/\gO F F' w w':=by
 have H:=af h;obtain⟨v,rfl,h1,h2,h4⟩:=h.out;obtain⟨av,cv,rfl⟩:=aA h2;have hlt:=h1.lt;have k0:=h1.cell 0;simp at k0;obtain⟨k,hk⟩:=ae l.length;obtain⟨n,hm⟩:=ae m.length;rw[hk]at h1 h2 k0 hl h4 H;rw[show blk (.slice av l.length cv)=blk (.slice av k cv) by cases av<;>rfl];rw[hm]at hu hn;obtain⟨au,cu,rfl⟩:=aA hu;have H1:=af h1;have H2:=af h2;have HU:=af hu;have HK:=af hk;have HM:=af hm;clear h1 h2 hm hk hu;by_cases hle:k+n<=65536
 ·go_enter func160,ntmps160;go_wp2_with (first
   | (at_builtin;refine wpList_plain rfl fun _ hK=>aR _ _ rfl Tryz.rY (by decide) 0 _ _ _ rfl H2.out uK _ _ (bs m) rfl HU.out (eX m) (by omega) (by omega) (Nat.zero_le _) fun v' w4 dI hg4 Qo=>hK _ _ ?_;obtain⟨a5,c5,rfl⟩:=aA dI;have hw4:=ak.ep hg4 (fun j hj=>bA.2 hj);have Ol:=H1.aw hw4 h4)
   | (refine aq rfl 22 170 _ _ rfl (fun w=>by kernel_rfl) p 0 _ _ rfl rfl Ol (by simp) rfl rfl ?_;intro w5 Fl eo))
  go_ret;have Qp:p∉blk (.slice a5 (k+n) c5):=fun hx=>eR Ol (by decide) dI (bA.1 hx).symm;have aa9:=fW dI eo (fun y hy hb=>by rw[List.mem_singleton]at hy;subst hy;exact Qp hb)
  refine⟨true,_,by rw[HK.out,HM.out];simp[hle],rfl,⟨_,rfl,Fl,?_,Qp⟩,⟨(hw4.sub (fun x hx=>List.mem_cons_of_mem _ hx)).trans (eo.sub (fun x hx=>by rw[List.mem_singleton]at hx;subst hx;exact List.mem_cons_self ..)),fun x hx=>?_⟩⟩
  ·rw[if_pos rfl,List.length_append,HK.out,HM.out,lZ];exact aa9
  rcases List.mem_cons.1 hx with rfl | hx
  ·exact .inl (List.mem_cons_self ..)
  rcases Qo x (bA.1 hx)with h7 | h7
  ·exact .inl (List.mem_cons_of_mem _ (bA.2 h7))
  exact .inr h7
 go_enter func160,ntmps160;go_wp2;go_ret;exact⟨false,_,by rw[HK.out,HM.out];simp[hle],rfl,H.out,gO.refl _ _⟩
def fits(l m:List UInt8):Bool:=decide (l.length+m.length<=65536)
theorem ky(s:List UInt8):Go.Lib.strCells ⟨s.toArray⟩=bs s:=by simp[Go.Lib.strCells,bs]
theorem sA{w:World}{F:List Nat}{p:Nat}{l:List UInt8}(h:Wr w F p l)(hl:l.length<=65536)(n k:Nat)(gW:1<=k)(hk:k<=2)(hn:n<256^k):
  Calls prog 97 #[.pointer (some ⟨p,0,none⟩),.int .u64 n,.int .i64 k] w fun e w'=>∃(ok:Bool)(F':List Nat),ok=fits l (ay k n)/\e=.returned (.int .i64 (if ok then 0 else 3))/\Wr w' F' p (if ok then l++ay k n else l)/\gO F F' w w':=by
 have H:=af h;have CN:=af (px h);have CW:=af (xA k w);have CL:=af (xB n k gW (by omega) w);have ey:(n:Int) / 2^(8*k)=0:=by
  have e:(2:Int)^(8*k)=((256^k:Nat):Int):=by rw[Int.pow_mul];simp
  rw[e];exact Int.ediv_eq_zero_of_lt (by omega) (by exact_mod_cast hn)
 have dw:(decide (1<=(k:Int))&&decide ((k:Int)<=8))=true:=by simp;omega
 rw[dw]at CW;clear hn;go_enter func97,ntmps97;go_wp2_with fail
 apply fI 0 rfl;go_wp2_with (first
  | (go_at_call 104;refine CN.mono ?_;rintro e w' ⟨rfl,rfl⟩)
  | (go_at_call 89;refine CW.mono ?_;rintro e w' ⟨rfl,rfl⟩)
  | (go_at_call 161;refine CL.mono ?_;rintro e w1 ⟨v1,rfl,Om,hb1⟩))
 have Wm:=aO k n;refine(Ag (H.ag hb1) hl _ v1 (ay k n) (by rw[Wm];exact Om) (by omega)).mono ?_;rintro e w2 ⟨ok,F2,jA,rfl,hw2,hb2⟩;have hw2:=af hw2;replace jA:=af jA;obtain⟨q,hq⟩:=ae ((if ok then 0 else 3):Int);rw[hq];replace hq:=af hq;go_wp2_with fail;rw[rV];go_ret;exact⟨ok,F2,jA.out,by rw[hq.out];rfl,hw2.out,(gO.ag hb1).trans hb2⟩
theorem xC{w:World}{F:List Nat}{p:Nat}{l:List UInt8}(h:Wr w F p l)(hl:l.length<=65536)(s:List UInt8)(hs:s.length<=35184372088832):
  Calls prog 93 #[.pointer (some ⟨p,0,none⟩),.string ⟨s.toArray⟩] w fun e w'=>∃(ok:Bool)(F':List Nat),ok=(decide (s.length<=65535)&&fits l (aI s))/\e=.returned (.int .i64 (if ok then 0 else 3))/\Wr w' F' p (if ok then l++aI s else l)/\gO F F' w w':=by
 have H:=af h;have CN:=af (px h);have CL:=af (xB s.length 2 (by decide) (by decide) w);obtain⟨n,hn⟩:=ae s.length;obtain⟨z,hz⟩:∃z:Int,z=(n:Int):=⟨_,rfl⟩;have HN:=af hn;rw[hn]at CL;obtain⟨i0,hi,hz0,hz1,hz2⟩:=info_parts Tryz.zF;by_cases hle:n<=65535
 ·go_enter func93,ntmps93;go_wp2_with (first
   | (go_at_call 104;refine CN.mono ?_;rintro e w' ⟨rfl,rfl⟩)
   | (go_at_call 161;refine CL.mono ?_;rintro e w1 ⟨v1,rfl,Om,hb1⟩;have hsz:=hb1.size)
   | (at_builtin;refine Go.Lib.wpList_append_own_string _ rfl _ _ 22 9 rfl _ 5 i0 underlying22 underlying9 hi hz0 hz1 hz2 _ _ _ rfl Om ⟨s.toArray⟩ rfl (by show 2+s.toArray.size<=_;unfold maxLen;simp;omega) (by show 2+s.toArray.size<=_;simp;omega) (by omega) ?_;intro v' w4 dI hg4 _))
  have hs2:(⟨s.toArray⟩:ByteArray).size=n:=hn;rw[hs2,ky,<-lZ]at dI;have hb4:Below w.heap.size w w4:=hb1.grown hg4 (by omega) (fun q hq=>(Om.lt q hq).1);have sB:aI s=ay 2 n++s:=by unfold aI;rw[hn]
  have Wm:(ay 2 n++s).length=2+n:=by rw[List.length_append,aO,hn]
  rw[<-sB]at dI Wm;refine(Ag (H.ag hb4) hl _ v' (aI s) (by rw[Wm];exact dI) (by omega)).mono ?_;rintro e w2 ⟨ok,F2,jA,rfl,hw2,hb2⟩;have hw2:=af hw2;replace jA:=af jA;obtain⟨q,hq⟩:=ae ((if ok then 0 else 3):Int);rw[hq];replace hq:=af hq;clear Wm sB hs2;go_wp2_with fail;go_ret;refine⟨ok,F2,?_,by rw[hq.out];rfl,hw2.out,(gO.ag hb4).trans hb2⟩;rw[jA.out];unfold fits;rw[HN.out,decide_eq_true hle,Bool.true_and]
 go_enter func93,ntmps93;go_wp2_with (go_at_call 104;refine CN.mono ?_;rintro e w' ⟨rfl,rfl⟩)
 go_ret;exact⟨false,_,by rw[HN.out,decide_eq_false hle,Bool.false_and],rfl,H.out,gO.refl _ _⟩
theorem nil_eq(a:Option Addr)(n c:Nat)(W:World):(binOp .eql 22 (.slice a n c) (.slice none 0 0)).run prog W=.ok (.bool a.isNone) W:=by simp[binOp,run_equal_slice_nil _ _ _ a n c underlying22]
theorem Ah(a:Option Addr)(n c:Nat)(l:List UInt8)(w:World)(hr:ax w a n c (bs l))(hn:n<=70368744177664):
  Calls prog 41 #[.slice a n c] w fun e w'=>∃v,e=.returned v/\w'.ownsRow w.heap.size 5 1 v n (bs l)/\Below w.heap.size w w':=by
 have hne:=nil_eq a n c;cases a with
 |none=>
  have hc:=hr.hnil rfl;have Zk:n=0:=by have:=hr.le;omega
  subst hc Zk;have hl:=hr.len;have hl0:bs l=[]:=List.eq_nil_of_length_eq_zero hl;rw[hl0];clear hl hl0 hr;go_enter func41,ntmps41;go_wp2;go_ret;exact⟨_,rfl,World.ownsRow_nil _ _ _ _,Below.refl _ _⟩
 |some ad=>
  have Nl:=hr.alloc (.cells #[] 5);have hown:(w.alloc (.cells #[] 5)).ownsRow w.heap.size 5 1 (.slice (some ⟨w.heap.size,0,none⟩) 0 0) 0 []:=⟨rfl,.inr ⟨w.heap.size,0,#[],rfl,Nat.le_refl _,ar.new _ _ _,Nat.le_refl _,by decide,rfl,rfl⟩⟩;go_enter func41,ntmps41;go_wp2_with (at_builtin;refine Cu rfl _ _ rfl Tryz.rY w.heap.size _ _ _ rfl hown _ _ _ (bs l) (eX l) rfl Nl (by omega) (by omega) (by simp) ?_;intro v' w4 dI hg4)
  go_ret;rw[Nat.zero_add,List.nil_append]at dI;exact⟨_,rfl,dI,((Below.refl _ w).alloc ah _).grown hg4 (by simp) (fun q hq=>by have h7:some w.heap.size=some q:=hq;cases h7;exact Nat.le_refl _)⟩
theorem uX{w:World}{F:List Nat}{p:Nat}{l:List UInt8}(h:Wr w F p l)(hl:l.length<=65536):
  Calls prog 80 #[.pointer (some ⟨p,0,none⟩)] w fun e w'=>∃v,e=.returned v/\w'.ownsRow w.heap.size 5 1 v l.length (bs l)/\Below w.heap.size w w':=by
 have CN:=af (px h);obtain⟨v,h0,h1,h2,h3⟩:=h.out;obtain⟨a,c,rfl,hr⟩:=ax.gK h2;have CC:=af (Ah a l.length c l w hr (by omega));have k0:=h1.cell 0;simp at k0;go_enter func80,ntmps80;go_wp2_with (first
  | (go_at_call 104;refine CN.mono ?_;rintro e w' ⟨rfl,rfl⟩)
  | (go_at_call 41;refine CC.mono ?_;rintro e w1 ⟨v1,rfl,ke,hb1⟩))
 go_ret;exact⟨_,rfl,ke,hb1⟩
structure Rd (w:World)(B p:Nat)(l:List UInt8):Prop where
 out:∃a n c,ar w p #[.slice a n c,.bool true] 94/\ax w a n c (bs l)/\p<B/\(∀x,a=some x->x.block≠p/\x.block<B)
 base:B<=w.heap.size
 len:l.length<=70368744177664
theorem ax.wrote{w w':World}{a:Option Addr}{n c:Nat}{cs:List Value}(h:ax w a n c cs){M:List Nat}(hw:ak M w w')(hM:∀x,a=some x->x.block∉M):ax w' a n c cs:=
 ⟨h.len,h.le,h.max,h.hnil,fun i hi=>by
  obtain⟨b,off,ha,hc⟩:=h.cells i hi;have hs:w.cell? ⟨b,off+i,none⟩=some (cs[i]'(by have:=h.len;omega)):=by rw[hc];exact List.getElem?_eq_getElem _
  refine⟨b,off,ha,?_⟩;rw[<-hc];unfold World.cell?;rw[hw.block b (gJ hs) (hM _ ha)]⟩
theorem Rd.wrote{w w':World}{B p:Nat}{l:List UInt8}(h:Rd w B p l){M:List Nat}(hw:ak M w w')(hM:∀x∈M,B<=x):Rd w' B p l:=by obtain⟨⟨a,n,c,h1,h2,h3,h4⟩,h5,h6⟩:=h;exact⟨⟨a,n,c,h1.aw hw (fun hx=>by have:=hM _ hx;omega),h2.wrote hw (fun x hx hm=>by have:=hM _ hm;have:=(h4 x hx).2;omega),h3,h4⟩,Nat.le_trans h5 hw.size,h6⟩
theorem Rd.ag{w w':World}{B p:Nat}{l:List UInt8}(h:Rd w B p l)(hb:Below w.heap.size w w'):Rd w' B p l:=h.wrote (M:=[]) (ak.aK hb) (fun x hx=>by cases hx)
theorem Rd.lt{w:World}{B p:Nat}{l:List UInt8}(h:Rd w B p l):p<B:=by obtain⟨⟨a,n,c,h1,h2,h3,h4⟩,h5⟩:=h;exact h3
theorem Wo(a:Option Addr)(n c k:Nat)(hk:k<=n)(hc:n<=c)(W:World):(Instr.slice 22 (.slice a n c) none (some (.int .i64 k)) (some (.int .i64 k))).run prog W=.ok (.slice a k k) W:=by have h:=run_slice_hm W 22 a n c Tryz.fP .i64 .i64 k k (by omega) (by omega) (by omega);rw[h,Tryz.xh];cases a<;>simp[sliced,Addr.add]
theorem pA{w:World}{B p:Nat}{l:List UInt8}(h:Rd w B p l)(q:Nat)(hq:Boxed w q 58 (.pointer (some ⟨p,0,none⟩)))(k:Nat)(hk:k<=70368744177664):
  Calls prog 119 #[.int .i64 k,.pointer (some ⟨q,0,none⟩)] w fun e w'=>
   (l.length<k/\e=.returned (.tuple #[.slice none 0 0,.bool false])/\w=w')\/
   (k<=l.length/\∃a c,e=.returned (.tuple #[.slice a k c,.bool true])/\ax w' a k c (bs (l.take k))/\Rd w' B p (l.drop k)/\ak [p] w w'):=by
 obtain⟨⟨a,n,c,h1,h2,h3,h4⟩,h5,h6⟩:=h;have hl:l.length=n:=by have:=h2.len;rwa [cV]at this
 have hpq:p≠q:=fun e=>by subst e;have:=h1.symm.trans hq;simp at this
 have kq:=hq.cell;have k0:=h1.cell 0;simp at k0;have HL:=af hl;by_cases Wp:k<=n
 ·have hc2:=Wo a n c k Wp h2.le;have hcut:=fun W=>ck Tryz.fP Tryz.xh a n c (k:Int) k rfl Wp W;have H1:=af h1;have H2:=af h2;have H4:=af h4;have hle:=h2.le;clear hl h1 h2 h4;go_enter func119,ntmps119;go_wp2_with fail
  refine aH [(11,fun w'=>ar w' p #[.slice a n c,.bool true] 94),(1000,fun w'=>Boxed w' q 58 (.pointer (some ⟨p,0,none⟩)))] (by kernel_rfl) ⟨H1.out,hq,trivial⟩ fun KQ aL=>?_;refine lR 0 1 rfl rfl rfl rfl (fun w' hf=>by(have k0:=hf.cell;go_simp<;>with_reducible rfl)) ?_;simp only[PT];refine lR 1 1 rfl rfl rfl rfl (fun w' hf=>by(have k0:=hf.cell;go_simp<;>with_reducible rfl)) ?_;simp only[PT];refine nQ 2 ?_;refine tQ [3,4] ?_;refine lR 5 0 rfl rfl rfl rfl (fun w' hf=>by(have k0:=hf.cell 0;simp at k0;go_simp<;>with_reducible rfl)) ?_;simp only[PT];refine tQ [6] ?_;refine fX 7 rfl (by kernel_rfl) (by kernel_rfl) rfl Tryz.fP _ hcut ?_;try simp only[PT]
  refine nQ 8 ?_;refine tQ [9,10] ?_;refine sQ 11 fun K hK=>?_;simp only[GO];refine aC 22 94 _ _ rfl (fun w=>by kernel_rfl) p 0 _ _ rfl rfl (show ar w.drew p _ _ from H1.out) (by simp) rfl rfl ?_;intro w5 Fl eo;refine hK _ _ ⟨⟨(fun h=>by cases h),fun _=>eo.boxed (by simp;omega) hq,trivial⟩,?_⟩;clear hK K;try simp only[PT]
  refine dQ (aL.out _ _ ?_);clear aL KQ;go_wp2
  go_ret2
  have hw:ak [p] w w5:=⟨eo.os,eo.tape,eo.output,eo.size,fun k hk=>eo.block k hk⟩;have hlt:=hq.lt;have hl:=HL.out;refine .inr ⟨by omega,a,k,rfl,?_,⟨⟨_,_,_,Fl,?_,h3,?_⟩,Nat.le_trans h5 hw.size,by simp;omega⟩,hw⟩
  ·have hr:=(H2.wrote hw (fun x hx hm=>(H4 x hx).1 (by simpa using hm))).take k Wp;rw[pV]at hr;exact⟨hr.len,Nat.le_refl _,by have:=hr.max;have:=hr.le;omega,fun e=>by have:=H2.hnil e;omega,hr.cells⟩
  ·have hr:=(H2.wrote hw (fun x hx hm=>(H4 x hx).1 (by simpa using hm))).from Wp;rw[dV]at hr;exact hr
  intro x hx;unfold eJ at hx;split at hx
  ·exact H4 x hx
  cases a with
  | none=>simp at hx
  |some y=>simp at hx;subst hx;have h7:=H4 y rfl;unfold Addr.add;split<;>exact h7
 go_enter func119,ntmps119;go_wp2
 go_ret2
 exact .inl ⟨by omega,rfl,rfl⟩
theorem pB{w:World}{B p:Nat}{l:List UInt8}(h:Rd w B p l):Calls prog 44 #[.pointer (some ⟨p,0,none⟩)] w fun e w'=>e=.returned (.bool false)/\w=w':=by obtain⟨⟨a,n,c,h1,h2,h3,h4⟩,h5,h6⟩:=h;have k1:=h1.cell 1;go_enter func44,ntmps44;go_wp2;go_ret;exact⟨rfl,rfl⟩
theorem lu{w:World}{B p:Nat}{l:List UInt8}(h:Rd w B p l):Calls prog 25 #[.pointer (some ⟨p,0,none⟩)] w fun e w'=>e=.returned (.int .i64 l.length)/\w=w':=by
 have CN:=af (pB h);obtain⟨⟨a,n,c,h1,h2,h3,h4⟩,h5,h6⟩:=h;have hl:l.length=n:=by have:=h2.len;rwa [cV]at this
 have k0:=h1.cell 0;simp at k0;rw[hl];go_enter func25,ntmps25;go_wp2_with (go_at_call 44;refine CN.mono ?_;rintro e w' ⟨rfl,rfl⟩)
 go_ret;exact⟨rfl,rfl⟩
theorem xE(p:Nat)(w:World):Calls prog 90 #[.pointer (some ⟨p,0,none⟩)] w fun e w'=>e=.returned (.func (.func 119) #[] #[.pointer (some ⟨w.heap.size,0,none⟩)])/\w.alloc (.cells #[.pointer (some ⟨p,0,none⟩)] 58)=w':=by have wA:∀(fn:Fn)(first cap:Array Value)(w:World),(Instr.makeFunc fn first cap).run prog w=.ok (.func fn first cap) w:=fun _ _ _ _=>rfl;go_enter func90,ntmps90;go_wp2;go_ret;exact⟨rfl,rfl⟩
theorem m9(a:Option Addr)(n c:Nat)(l:List UInt8)(w:World)(hr:ax w a n c (bs l))(hn:n<=70368744177664):
  Calls prog 20 #[.slice a n c] w fun e w'=>∃p,e=.returned (.pointer (some ⟨p,0,none⟩))/\w.heap.size<=p/\Rd w' w'.heap.size p l/\Below w.heap.size w w':=by
 have CC:=af (Ah a n c l w hr hn);go_enter func20,ntmps20;go_wp2_with (go_at_call 41;refine CC.mono ?_;rintro e w1 ⟨v1,rfl,ke,hb1⟩;obtain⟨a1,c1,rfl⟩:=aA ke)
 go_ret;obtain⟨a2,c2,e2,hr2⟩:=ax.gK ke;cases e2;have hsz:=hb1.size;have Qq:l.length=n:=by have:=hr.len;rwa [cV]at this
 refine⟨w1.heap.size,rfl,hsz,⟨⟨a1,n,c1,ar.new _ _ _,hr2.alloc _,by simp,fun x hx=>?_⟩,Nat.le_refl _,by omega⟩,hb1.alloc hsz _⟩;subst hx;obtain⟨b,off,spot⟩:=x;have hlt:=fun k=>ke.lt k;have:=(ke.lt b (by simp[Value.ownBlock])).2;simp;omega
theorem rJ(n:Nat)(h:n<18446744073709551616):IntKind.u64.wrap (n:Int)=n:=by rw[IntKind.wrap_u64];omega
theorem Si(x b:Nat)(hx:x<65536)(hb:b<256):bits .or .u64 (IntKind.u64.wrap ((x:Int)*256)) (IntKind.u64.wrap b)=((x*256+b:Nat):Int):=by
 have e1:(x:Int)*256=((x*256:Nat):Int):=by omega
 rw[e1,rJ _ (by omega),rJ _ (by omega),bits_or_u64_nat _ _ (by omega) (by omega)];have h:=Nat.shiftLeft_add_eq_or_of_lt (i:=8) (b:=b) (by omega) x;rw[Nat.shiftLeft_eq]at h;rw[<-h]
theorem l9(k:Nat)(l:List UInt8):(l.length<k/\aX k l=none)\/(k<=l.length/\aX k l=some (jO (l.take k),l.drop k)):=by
 unfold aX;by_cases h:l.length<k
 ·exact .inl ⟨h,if_pos h⟩
 exact .inr ⟨by omega,if_neg h⟩
theorem ma{w:World}{B p:Nat}{l:List UInt8}(h:Rd w B p l)(k:Nat)(gW:1<=k)(hk:k<=2):
  Calls prog 42 #[.pointer (some ⟨p,0,none⟩),.int .i64 k] w fun e w'=>
   (l.length<k/\e=.returned (.tuple #[.int .u64 0,.int .i64 130])/\Below w.heap.size w w')\/
   (k<=l.length/\e=.returned (.tuple #[.int .u64 (jO (l.take k)),.int .i64 0])/\Rd w' B p (l.drop k)/\ak [p] w w'):=by
 have CN:=af (pB h);have CW:=af (xA k w);have CT:=af (xE p w);have hb1:Below w.heap.size w (w.alloc (.cells #[.pointer (some ⟨p,0,none⟩)] 58)):=ai.alloc ah _;have C1:=af (pA (h.ag hb1) w.heap.size (Boxed.new w _ _) k (by omega));have dw:(decide (1<=(k:Int))&&decide ((k:Int)<=8))=true:=by simp;omega
 rw[dw]at CW;have hpl:=h.lt;have RR:=h.base;go_enter func42,ntmps42;go_wp2_with (first
  | (go_at_call 44;refine CN.mono ?_;rintro e w' ⟨rfl,rfl⟩)
  | (go_at_call 89;refine CW.mono ?_;rintro e w' ⟨rfl,rfl⟩)
  | (go_at_call 90;refine CT.mono ?_;rintro e w1 ⟨rfl,rfl⟩))
 refine C1.mono ?_;rintro e w2 (⟨hlt,rfl,rfl⟩ | ⟨hle,a2,c2,rfl,hr2,mC,hw2⟩)
 ·go_wp2
  go_ret2
  exact .inl ⟨hlt,rfl,hb1⟩
 have DA:=af mC;have Qr:=af hw2;have HL:=af hle;obtain⟨m,hm⟩:=ae (l.take k);rw[hm]at hr2;have HM:=af hm;clear hw2 mC hm hle;go_wp2_with fail;go_loopw [8,27] (fun v i wr=>∃j:Nat,j<=k/\i=.int .i64 j/\v=.int .u64 (jO (m.take j))/\w2=wr) (fun _ i _=>k-(intOf i).toNat)
 case atStart=>exact⟨0,Nat.zero_le _,by go_num,rfl,rfl⟩
 case round=>
  obtain⟨j,hj,rfl,rfl,rfl⟩:=hrel;by_cases hjk:j<k
  ·obtain⟨b,off,ha,hcell⟩:=hr2.byte hjk;subst ha;have hs:jO (m.take (j+1))=jO (m.take j)*256+(m[j]?.getD 0).toNat:=by
    have Og:j<m.length:=by have:=hr2.len;rw[cV]at this;omega
    rw[List.take_add_one,List.getElem?_eq_getElem Og];exact mZ _ _
   have hx:jO (m.take j)<65536:=by
    have h1:=lY (m.take j);have h2:(m.take j).length<=1:=by simp;omega
    have h3:256^(m.take j).length<=256^1:=Nat.pow_le_pow_right (by decide) h2;omega
   have ho:=Si (jO (m.take j)) (m[j]?.getD 0).toNat hx (m[j]?.getD 0).toNat_lt;rw[<-hs]at ho;obtain⟨x,hX⟩:=ae (jO (m.take j));obtain⟨y,hY⟩:=ae ((m[j]?.getD 0).toNat);rw[hX,hY]at ho;rw[hY]at hcell;rw[hX];clear hs hx hX hY;replace ho:=af ho;go_wp2_with fail;refine⟨⟨j+1,by omega,by go_num,by rw[ho.out],trivial⟩,by simp[intOf];omega⟩
  obtain rfl:j=k:=by omega
  rw[List.take_of_length_le (by have:=hr2.len;rw[cV]at this;omega)];go_wp2
  go_ret2
  rw[<-HM.out];exact .inr ⟨HL.out,rfl,DA.out,(ak.alloc _ _ _).trans Qr.out⟩
theorem u2{w:World}{B p:Nat}{l:List UInt8}(h:Rd w B p l):
  Calls prog 43 #[.pointer (some ⟨p,0,none⟩)] w fun e w'=>
   (bC l=none/\e=.returned (.tuple #[.string ⟨#[]⟩,.int .i64 130])/\Rd w' B p l/\ak [p] w w')\/
   ∃x,bC l=some x/\e=.returned (.tuple #[.string ⟨x.1.toArray⟩,.int .i64 0])/\Rd w' B p x.2/\ak [p] w w':=by
 have CN:=af (pB h);have CR:=af (ma h 2 (by decide) (by decide));have CT:=af (fun w=>xE p w);have H:=af h;obtain⟨⟨a,n,c,h1,h2,h3,h4⟩,h5,h6⟩:=h;have k0:=h1.cell 0;simp at k0;have H1:=af h1;have H2:=af h2;have H4:=af h4;clear h1 h2 h4;go_enter func43,ntmps43;go_wp2_with (go_at_call 44;refine CN.mono ?_;rintro e w' ⟨rfl,rfl⟩)
 refine CR.mono ?_;rintro e w1 (⟨hlt,rfl,hb1⟩ | ⟨hle,rfl,jP,bL⟩)
 ·have hn:bC l=none:=by
   rcases l9 2 l with⟨_,h7⟩ | ⟨h7,_⟩
   ·unfold bC;rw[h7];rfl
   omega
  have Qs:=af (H.ag hb1);have HNN:=af hn;have wC:ak [p] w w1:=ak.aK hb1;have Ca:=af wC;have C0:=af (pA (Qs.ag (ai.alloc ah (.cells #[.pointer (some ⟨p,0,none⟩)] 58))) w1.heap.size (Boxed.new w1 _ _) 0 (by omega));go_wp2_with (go_at_call 90;refine(CT _).mono ?_;rintro e w2 ⟨rfl,rfl⟩)
  refine C0.mono ?_;rintro e w2 (⟨u3,rfl,rfl⟩ | ⟨Sj,a2,c2,rfl,hr2,mC,hw2⟩)
  ·omega
  have Qr:=af ((ak.alloc [p] w1 (.cells #[.pointer (some ⟨p,0,none⟩)] 58)).trans hw2);obtain⟨⟨a3,n3,c3,hb3, -, -, -⟩, -, -⟩:=mC;clear hw2 hr2;go_wp2_with (refine aq rfl 22 94 _ _ rfl (fun w=>by kernel_rfl) p 0 _ _ rfl rfl hb3 (by simp) rfl rfl ?_;intro w5 Fl eo)
  go_ret2
  have hall:=(Ca.trans Qr.out).trans eo;exact .inl ⟨HNN.out,rfl,⟨⟨a,n,c,Fl,H2.wrote hall (fun x hx hm=>(H4 x hx).1 (by simpa using hm)),h3,H4.out⟩,Nat.le_trans h5 hall.size,h6⟩,hall⟩
 have Qs:=af jP;have Ca:=af bL;have h8:aX 2 l=some (jO (l.take 2),l.drop 2):=by
  rcases l9 2 l with⟨h7,_⟩ | ⟨_,h7⟩
  ·omega
  exact h7
 have hbl:jO (l.take 2)<65536:=by
  have h1:=lY (l.take 2)
  rwa [List.length_take_of_le hle]at h1
 obtain⟨m,hm⟩:=ae (jO (l.take 2));have ht:bC l=if (l.drop 2).length<m then none else some ((l.drop 2).take m,(l.drop 2).drop m):=by unfold bC;rw[h8,Option.bind_some,hm]
 rw[hm]at hbl;rw[hm];have HT:=af ht;have C0:=af (pA (Qs.ag (ai.alloc ah (.cells #[.pointer (some ⟨p,0,none⟩)] 58))) w1.heap.size (Boxed.new w1 _ _) m (by omega));clear ht h8 hm hle bL jP;go_wp2_with (go_at_call 90;refine(CT _).mono ?_;rintro e w2 ⟨rfl,rfl⟩);refine C0.mono ?_;rintro e w2 (⟨u3,rfl,hww⟩ | ⟨Sj,a2,c2,rfl,hr2,mC,hw2⟩)
 ·have Qr:=af (ak.alloc [p] w1 (.cells #[.pointer (some ⟨p,0,none⟩)] 58));have mC:=Qs.ag (ai.alloc ah (.cells #[.pointer (some ⟨p,0,none⟩)] 58));rw[hww]at Qr mC;clear hww;obtain⟨⟨a3,n3,c3,hb3, -, -, -⟩, -, -⟩:=mC;have HL2:=af u3;clear u3;go_wp2_with (refine aq rfl 22 94 _ _ rfl (fun w=>by kernel_rfl) p 0 _ _ rfl rfl hb3 (by simp) rfl rfl ?_;intro w5 Fl eo)
  go_ret2
  have hall:=(Ca.trans Qr.out).trans eo;exact .inl ⟨by rw[HT.out,if_pos HL2.out],rfl,⟨⟨a,n,c,Fl,H2.wrote hall (fun x hx hm=>(H4 x hx).1 (by simpa using hm)),h3,H4.out⟩,Nat.le_trans h5 hall.size,h6⟩,hall⟩
 have HL2:=af Sj;have Qr:=af ((ak.alloc [p] w1 (.cells #[.pointer (some ⟨p,0,none⟩)] 58)).trans hw2);have DA:=af mC;have KM:=dX hr2;clear Sj hw2 mC;go_wp2_with fail
 go_ret2
 exact .inr ⟨_,by rw[HT.out,if_neg (by have:=HL2.out;omega)],rfl,DA.out,Ca.trans Qr.out⟩
theorem eT{w:World}{B p:Nat}{l:List UInt8}(h:Rd w B p l)(k:Nat)(gW:1<=k)(hk:k<=2):
  Calls prog 23 #[.agg #[.pointer (some ⟨p,0,none⟩)],.int .i64 k] w fun e w'=>(aX k l=none/\e=.panicked (given 390)/\ak [p] w w')\/∃x,aX k l=some x/\e=.returned (.int .i64 x.1)/\Rd w' B p x.2/\ak [p] w w':=by
 have hb0:Below w.heap.size w (w.alloc (.cells #[.pointer (some ⟨p,0,none⟩)] 61)):=ai.alloc ah _;have CR:=af (ma (h.ag hb0) k gW hk);have CM:=af lX;have W0:ak [p] w (w.alloc (.cells #[.pointer (some ⟨p,0,none⟩)] 61)):=ak.alloc _ _ _;have W0:=af W0;rcases l9 k l with⟨hlt,hn⟩ | ⟨hle,hn⟩
 ·have HN:=af hn;go_enter func23,ntmps23;go_wp2_with fail
  refine CR.mono ?_;rintro e w1 (⟨_,rfl,hb1⟩ | ⟨hle,rfl,jP,bL⟩)
  ·have HB:=af hb1;clear hb1 hlt;go_wp2_with (go_at_call 19;refine(CM _ _ _).mono ?_;rintro e w2 ⟨rfl,rfl⟩);exact⟨rfl,.inl ⟨HN.out,rfl,W0.trans (ak.aK HB.out)⟩⟩
  omega
 have HN:=af hn;have hbl:jO (l.take k)<65536:=by
  have h1:=lY (l.take k);have h2:(l.take k).length<=2:=by simp;omega
  have h3:256^(l.take k).length<=256^2:=Nat.pow_le_pow_right (by decide) h2;omega
 obtain⟨m,hm⟩:=ae (jO (l.take k));rw[hm]at CR hbl HN;obtain⟨z,hz⟩:∃z:Int,z=(m:Int):=⟨_,rfl⟩;rw[<-hz]at CR;have hz1:0<=z:=by omega
 have hz2:z<65536:=by omega
 have HZ:=af hz;clear hm hz hn hbl;go_enter func23,ntmps23;go_wp2_with fail
 refine CR.mono ?_;rintro e w1 (⟨hlt,rfl,hb1⟩ | ⟨_,rfl,jP,bL⟩)
 ·omega
 have HR:=af jP;have HW:=af bL;clear jP bL hle;go_wp2_with (go_at_call 19;refine(CM _ _ _).mono ?_;rintro e w2 ⟨rfl,rfl⟩);go_ret;exact .inr ⟨_,HN.out,by rw[HZ.out];rfl,HR.out,W0.trans HW.out⟩
theorem qB{w:World}{B p:Nat}{l:List UInt8}(h:Rd w B p l):
  Calls prog 24 #[.agg #[.pointer (some ⟨p,0,none⟩)]] w fun e w'=>(bC l=none/\e=.panicked (given 390)/\ak [p] w w')\/∃x,bC l=some x/\e=.returned (.string ⟨x.1.toArray⟩)/\Rd w' B p x.2/\ak [p] w w':=by
 have hb0:Below w.heap.size w (w.alloc (.cells #[.pointer (some ⟨p,0,none⟩)] 61)):=ai.alloc ah _;have CR:=af (u2 (h.ag hb0));have CM:=af lX;have W0:ak [p] w (w.alloc (.cells #[.pointer (some ⟨p,0,none⟩)] 61)):=ak.alloc _ _ _;have W0:=af W0;go_enter func24,ntmps24;go_wp2_with fail
 refine CR.mono ?_;rintro e w1 (⟨hn,rfl,jP,bL⟩ | ⟨⟨s,r⟩,hn,rfl,jP,bL⟩)
 ·have HN:=af hn;have HW:=af bL;clear bL hn;go_wp2_with (go_at_call 19;refine(CM _ _ _).mono ?_;rintro e w2 ⟨rfl,rfl⟩);exact⟨rfl,.inl ⟨HN.out,rfl,W0.trans HW.out⟩⟩
 have HN:=af hn;have HW:=af bL;have HR:=af jP;clear bL hn jP;dsimp only at HR;go_wp2_with (go_at_call 19;refine(CM _ _ _).mono ?_;rintro e w2 ⟨rfl,rfl⟩)
 go_ret;exact .inr ⟨_,HN.out,rfl,HR.out,W0.trans HW.out⟩
theorem vd{w:World}{F:List Nat}{p:Nat}{l:List UInt8}(h:Wr w F p l)(hl:l.length<=65536)(s:List UInt8)(hs:s.length<=35184372088832):
  Calls prog 55 #[.agg #[.pointer (some ⟨p,0,none⟩)],.string ⟨s.toArray⟩] w fun e w'=>∃F',gO F F' w w'/\
   (((s.length<=65535/\fits l (aI s)=true)/\e=.returned (.tuple #[])/\Wr w' F' p (l++aI s))\/(¬(s.length<=65535/\fits l (aI s)=true)/\e=.panicked (given 3))):=by
 have CT:=af (xC (h.alloc (.cells #[.pointer (some ⟨p,0,none⟩)] 102)) hl s hs);clear hs;replace hl:=af hl;have CM:=af lX;have W0:=af (gO.ag (F:=F) ((Below.refl w.heap.size w).alloc ah (.cells #[.pointer (some ⟨p,0,none⟩)] 102)));go_enter func55,ntmps55;go_wp2_with fail
 refine CT.mono ?_;rintro e w1 ⟨ok,F1,jA,rfl,bL,hs1⟩;replace hs1:=af hs1;replace jA:=af jA;obtain⟨q,hq⟩:=ae ((if ok then 0 else 3):Int);rw[hq];cases ok with
 | true=>
  rw[if_pos rfl]at bL;replace bL:=af bL;obtain rfl:0=q:=hq;go_wp2_with (go_at_call 19;refine(CM _ _ _).mono ?_;rintro e w2 ⟨rfl,rfl⟩)
  go_end0
  have h7:s.length<=65535/\fits l (aI s)=true:=by have h8:=jA.symm;rw[Bool.and_eq_true,decide_eq_true_eq]at h8;exact h8
  exact⟨F1,W0.trans hs1.out,.inl ⟨h7,rfl,bL.out⟩⟩
 |false=>obtain rfl:3=q:=hq;clear bL;go_wp2_with (go_at_call 19;refine(CM _ _ _).mono ?_;rintro e w2 ⟨rfl,rfl⟩);have h7:=jA.out;refine⟨rfl,F1,W0.trans hs1.out,.inr ⟨fun h=>?_,rfl⟩⟩;rw[h.2,decide_eq_true h.1]at h7;cases h7
theorem aW.one(w:World)(z:Int)(T:TypeId):aW jD 1 (w.alloc (.cells #[.int .i64 z] T)) (some ⟨w.heap.size,0,none⟩) 1 1 [z]:=
 ⟨rfl,Nat.le_refl _,by decide,fun i x hx=>by
  cases i with
  |zero=>simp at hx;subst hx;refine⟨w.heap.size,0,rfl,by simp,fun j v hj=>?_⟩;have hb:ar (w.alloc (.cells #[.int .i64 z] T)) w.heap.size #[.int .i64 z] T:=ar.new _ _ _;rw[hb.cell];simp only[Nat.zero_mul,Nat.zero_add];rw[<-Array.getElem?_toList];exact hj
  | succ i=>simp at hx⟩
theorem nU(k:Nat)(xs:List Int):(xs.flatMap fun z=>ay k z.toNat).length=xs.length*k:=by
 induction xs with
 | nil=>simp
 | cons x xs ih=>rw[List.flatMap_cons,List.length_append,ih,aO,List.length_cons,Nat.add_mul];omega
theorem fY{w:World}{F:List Nat}{p:Nat}{l:List UInt8}(h:Wr w F p l)(hl:l.length<=65536)(k:Nat)(gW:1<=k)(hk:k<=2)(xs:List Int)(hx:∀z∈xs,0<=z/\z<((256^k:Nat):Int))(a:Option Addr)(n c:Nat)(hr:aW jD 1 w a n c xs)
  (hf:xs≠[]->∀x,a=some x->x.block∉F) (hn:n<=1000000):
  Calls prog 65 #[.agg #[.pointer (some ⟨p,0,none⟩)],.int .i64 k,.slice a n c] w fun e w'=>∃F',gO F F' w w'/\
   ((fits l (xs.flatMap fun z=>ay k z.toNat)=true/\e=.returned (.tuple #[])/\Wr w' F' p (l++xs.flatMap fun z=>ay k z.toNat))\/(fits l (xs.flatMap fun z=>ay k z.toNat)=false/\e=.panicked (given 3))):=by
 have wA:∀(fn:Fn)(first cap:Array Value)(w:World),(Instr.makeFunc fn first cap).run prog w=.ok (.func fn first cap) w:=fun _ _ _ _=>rfl;have hlen:xs.length=n:=hr.len;have CN:=af (fun(W:World)(F1:List Nat)(l1:List UInt8)(hW:Wr W F1 p l1)(h1:l1.length<=65536)(m:Nat)(hm:m<256^k)=>sA hW h1 m k gW hk hm);have CM:=af lX;have H0:=af (h.alloc (.cells #[.pointer (some ⟨p,0,none⟩)] 102));have HR:=af hr;have W0:=af (gO.ag (F:=F) ((Below.refl w.heap.size w).alloc ah (.cells #[.pointer (some ⟨p,0,none⟩)] 102)));have HL:=af hlen;have hx:=af hx;clear hlen hr;go_enter func65,ntmps65;go_wp2_with fail
 go_loopw [14] (fun i wr=>∃(j:Nat)(F1:List Nat),i=.int .i64 j/\j<=n/\l.length+j*k<=65536/\Hid (Wr wr F1 p (l++(xs.take j).flatMap fun z=>ay k z.toNat))/\Hid (gO F F1 w wr)) (fun i _=>n-(intOf i).toNat)
 case atStart=>exact⟨0,F,by go_num,Nat.zero_le _,by omega,by simpa using H0,W0⟩
 case round=>
  obtain⟨j,F1,rfl,hj,iR,hW,hS⟩:=hrel;by_cases Js:j<n
  ·obtain⟨z,hz⟩:∃z,xs[j]?=some z:=⟨_,List.getElem?_eq_getElem (by rw[HL.out];exact Js)⟩;obtain⟨b,off,ha,hbl,hrg⟩:=HR.eM j z hz;have hcell:wr.cell? ⟨b,off+j,none⟩=some (.int .i64 z):=by have h1:=hrg 0 (.int .i64 z) rfl;have h2:=hS.out.wrote.block b hbl (hf (List.ne_nil_of_mem (List.mem_of_getElem? hz)) _ ha);unfold World.cell? at h1 ⊢;rw[h2];simpa using h1
   subst ha;clear hrg hbl;obtain⟨hz0,hz1⟩:=hx z (List.mem_of_getElem? hz);obtain⟨m,rfl⟩:=Int.eq_ofNat_of_zero_le hz0;have hm:m<256^k:=by omega
   have tx:(m:Int)<18446744073709551616:=by have h3:256^k<=256^2:=Nat.pow_le_pow_right (by decide) hk;omega
   have jy:(l++(xs.take j).flatMap fun z=>ay k z.toNat).length=l.length+j*k:=by rw[List.length_append,nU,List.length_take_of_le (by rw[HL.out];omega)]
   have my:(xs.take (j+1)).flatMap (fun z=>ay k z.toNat)=(xs.take j).flatMap (fun z=>ay k z.toNat)++ay k m:=by rw[List.take_add_one,hz,List.flatMap_append];simp
   have CX:=af (CN wr F1 _ hW.out (by omega) m hm);replace jy:=af jy;replace my:=af my;replace iR:=af iR;replace hl:=af hl;clear hm hz1 hz hz0;go_wp2_with fail;refine CX.mono ?_;rintro e w1 ⟨ok,F2,jA,rfl,bL,hs1⟩;replace hs1:=af hs1;replace jA:=af jA;obtain⟨q,hq⟩:=ae ((if ok then 0 else 3):Int);rw[hq];cases ok with
   |true=>
    rw[if_pos rfl]at bL;replace bL:=af bL;obtain rfl:0=q:=hq;go_wp2_with (go_at_call 19;refine(CM _ _ _).mono ?_;rintro e w2 ⟨rfl,rfl⟩)
    have h8:=jA.symm;unfold fits at h8;rw[decide_eq_true_eq,aO,jy.out]at h8;refine⟨⟨j+1,F2,by go_num,by omega,by have h6:=iR.out;rw[Nat.add_mul];omega,?_,hS.out.trans hs1.out⟩,by simp[intOf];omega⟩;rw[my.out,<-List.append_assoc];exact bL.out
   |false=>obtain rfl:3=q:=hq;clear bL;go_wp2_with fail;refine(CM _ _ _).mono ?_;rintro e w2 ⟨rfl,rfl⟩;have h8:=jA.symm;unfold fits at h8;rw[decide_eq_false_iff_not,aO,jy.out]at h8;refine⟨rfl,F2,hS.out.trans hs1.out,.inr ⟨?_,rfl⟩⟩;unfold fits;rw[decide_eq_false_iff_not,nU,HL.out];have h9:(j+1)*k<=n*k:=Nat.mul_le_mul_right _ (by omega);rw[Nat.add_mul]at h9;omega
  obtain rfl:j=n:=by omega
  rw[List.take_of_length_le (by rw[HL.out];exact Nat.le_refl _)]at hW;go_wp2
  go_end0
  refine⟨F1,hS.out,.inl ⟨?_,rfl,hW.out⟩⟩;unfold fits;rw[decide_eq_true_eq,nU,HL.out];exact iR
def bG(f:FuncId)(cap:Array Value):Value:=.func (.func f) #[] cap
def sD:Value:=.agg #[bG 45 #[],bG 46 #[],bG 47 #[],bG 48 #[]]
def jc:Value:=.agg #[bG 45 #[],bG 49 #[],bG 47 #[],bG 48 #[]]
def Ov(c:Nat):Value:=.agg #[bG 50 #[.pointer (some ⟨c,0,none⟩)],bG 52 #[],bG 53 #[],bG 56 #[]]
def yx(c:Nat):Value:=.agg #[bG 58 #[.pointer (some ⟨c,0,none⟩)],bG 59 #[],bG 60 #[],bG 61 #[]]
def Ow:Value:=.agg #[bG 62 #[],bG 63 #[],bG 64 #[],bG 66 #[]]
def yy:Value:=.agg #[bG 67 #[],bG 70 #[],bG 71 #[],bG 72 #[]]
def df(c:Nat)(k:Int):Option Value:=
 if k=8 then some yy else if k=7 then some Ow else if k=3 then some (yx c)else if k=2 then some (Ov c)
 else if k=6 then some jc else if k=5 then some jc else if k=4 then some sD else if k=1 then some sD else none
theorem rL{w w':World}{b m:Nat}{cs:Array Value}{T:TypeId}(h:ar w b cs T)(hg:w.grownBy w' (some m))(hn:b≠m):ar w' b cs T:=
 h.aw (M:=[m]) (ak.ep hg (fun j hj=>by cases hj;exact List.mem_singleton.2 rfl)) (by simpa using hn)
theorem ng(w:World):Calls prog 26 #[] w fun e w'=>∃m c,e=.returned (.map (some m))/\IM .i64 w' m (df c)/\Boxed w' c 66 (bG 45 #[])/\Below w.heap.size w w':=by
 have wA:∀(fn:Fn)(first cap:Array Value)(w:World),(Instr.makeFunc fn first cap).run prog w=.ok (.func fn first cap) w:=fun _ _ _ _=>rfl;have Fa:= @run_makeMap prog;obtain⟨W1,hW1⟩:=ae (w.alloc (.cells #[bG 45 #[]] 66));obtain⟨W2,hW2⟩:=ae (W1.alloc (.cells #[bG 45 #[],bG 46 #[],bG 47 #[],bG 48 #[]] 71));obtain⟨W3,hW3⟩:=ae (W2.alloc (.cells #[bG 45 #[],bG 49 #[],bG 47 #[],bG 48 #[]] 71));have s1:W1.heap.size=w.heap.size+1:=by rw[<-hW1];simp
 have s2:W2.heap.size=w.heap.size+1+1:=by rw[<-hW2];simp[s1]
 have s3:W3.heap.size=w.heap.size+1+1+1:=by rw[<-hW3];simp[s2]
 have hc:ar (W3.alloc (.map #[] 0)) w.heap.size #[bG 45 #[]] 66:=by
  have h1:ar W1 w.heap.size #[bG 45 #[]] 66:=by rw[<-hW1];exact ar.new _ _ _
  have h2:=h1.alloc (.cells #[bG 45 #[],bG 46 #[],bG 47 #[],bG 48 #[]] 71);rw[hW2]at h2;have h3:=h2.alloc (.cells #[bG 45 #[],bG 49 #[],bG 47 #[],bG 48 #[]] 71);rw[hW3]at h3;exact h3.alloc _
 have h2:ar (W3.alloc (.map #[] 0)) (w.heap.size+1) #[bG 45 #[],bG 46 #[],bG 47 #[],bG 48 #[]] 71:=by
  have h2:ar W2 (w.heap.size+1) #[bG 45 #[],bG 46 #[],bG 47 #[],bG 48 #[]] 71:=by rw[<-hW2,<-s1];exact ar.new _ _ _
  have h3:=h2.alloc (.cells #[bG 45 #[],bG 49 #[],bG 47 #[],bG 48 #[]] 71);rw[hW3]at h3;exact h3.alloc _
 have h3:ar (W3.alloc (.map #[] 0)) (w.heap.size+1+1) #[bG 45 #[],bG 49 #[],bG 47 #[],bG 48 #[]] 71:=by
  have h3:ar W3 (w.heap.size+1+1) #[bG 45 #[],bG 49 #[],bG 47 #[],bG 48 #[]] 71:=by rw[<-hW3,<-s2];exact ar.new _ _ _
  exact h3.alloc _
 have hI:IM .i64 (W3.alloc (.map #[] 0)) (w.heap.size+1+1+1) (fun _=>none):=by rw[<-s3];exact IM.new _
 have bK:Below w.heap.size w (W3.alloc (.map #[] 0)):=by
  have b1:Below w.heap.size w W1:=by rw[<-hW1];exact ai.alloc ah _
  have b2:Below w.heap.size w W2:=by rw[<-hW2];exact b1.alloc (by omega) _
  have b3:Below w.heap.size w W3:=by rw[<-hW3];exact b2.alloc (by omega) _
  exact b3.alloc (by omega) _
 clear s1 s2 s3;subst hW3 hW2 hW1;unfold bG at*
 go_enter func26,ntmps26;go_wp2_with (first
  | (refine wh rfl _ _ _ _ rfl _ _ underlying73 underlying44 hI rfl _ _ rfl rfl ?_;intro wN hI' hg;replace hI:=hI';replace hc:=rL hc hg (by omega);replace h2:=rL h2 hg (by omega);replace h3:=rL h3 hg (by omega);replace bK:=bK.grown hg bK.size (fun k hk=>by cases hk;omega);clear hg hI')
  | (refine wL 71 rfl rfl h2 underlying71 ?_)
  | (refine wL 71 rfl rfl h3 underlying71 ?_))
 go_ret;exact⟨_,rfl,w.heap.size,hI,hc,bK⟩
end
end Go.Proofs.YtkghejaimhoboaaGreatDoor
