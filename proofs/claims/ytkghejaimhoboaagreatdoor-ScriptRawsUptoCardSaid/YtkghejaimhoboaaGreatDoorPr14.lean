/- Parts of the proof of ScriptRaws. -/
import Derived.Test.YtkghejaimhoboaaGreatDoorPr11
import Derived.Lib.AppendStr
import Derived.Laws.Cover3
import Derived.Laws.Bits64
import Derived.Laws.Bits64b
import Derived.Test.YtkghejaimhoboaaGreatDoorPr13
set_option linter.unusedSimpArgs false
set_option linter.unusedVariables false
set_option maxRecDepth 100000
set_option maxHeartbeats 8000000
namespace Go.Proofs.YtkghejaimhoboaaGreatDoor
open Go.RowKit Go.Shelf Go.Proofs.Tryz
section
attribute [local go_sem] Oper.semAt_some
theorem bs_app(l m:List UInt8):bs (l++m)=bs l++bs m:=by simp[bs]
structure Wr (w:World)(F:List Nat)(p:Nat)(l:List UInt8):Prop where
 out:∃v,F=p::blk v/\Blk w p #[v,.bool true] 170/\w.ownsRow 0 5 1 v l.length (bs l)/\p∉blk v
theorem Wr.below{w w':World}{F:List Nat}{p:Nat}{l:List UInt8}(h:Wr w F p l)(hb:Below w.heap.size w w'):Wr w' F p l:=by obtain⟨v,h0,h1,h2,h3⟩:=h.out;exact⟨v,h0,h1.below hb,ownsRow_below h2 hb,h3⟩
theorem Wr.alloc{w:World}{F:List Nat}{p:Nat}{l:List UInt8}(h:Wr w F p l)(o:Obj):Wr (w.alloc o) F p l:=h.below (bel_refl.alloc nat_le_rfl o)
theorem Wr.lt{w:World}{F:List Nat}{p:Nat}{l:List UInt8}(h:Wr w F p l):∀x∈F,x<w.heap.size:=by
 obtain⟨v,rfl,h1,h2,_⟩:=h.out;intro x hx;rcases List.mem_cons.1 hx with rfl | hx
 ·exact h1.lt
 exact blk_lt h2 hx
theorem Wr.wrote{w w':World}{F:List Nat}{p:Nat}{l:List UInt8}(h:Wr w F p l){M:List Nat}(hw:Wrote M w w')(hM:∀x∈F,x∉M):Wr w' F p l:=by obtain⟨v,rfl,h1,h2,h3⟩:=h.out;exact⟨v,rfl,h1.keepW hw (hM _ (List.mem_cons_self ..)),not_own h2 hw (fun x hx hb=>hM x (List.mem_cons_of_mem _ hb) hx),h3⟩
theorem wire_NewWriter(w:World):Calls prog 79 #[] w fun e w'=>e=.returned (.pointer (some ⟨w.heap.size,0,none⟩))/\Wr w' [w.heap.size] w.heap.size []/\Below w.heap.size w w':=by
 go_enter func79,ntmps79;go_wp2_with fail
 go_ret;exact⟨rfl,⟨.slice none 0 0,rfl,Blk.new _ _ _,⟨rfl,.inl ⟨rfl,rfl⟩⟩,by simp[blk,Value.ownBlock]⟩,bel_refl.alloc nat_le_rfl _⟩
theorem wire_wnone{w:World}{F:List Nat}{p:Nat}{l:List UInt8}(h:Wr w F p l):Calls prog 104 #[.pointer (some ⟨p,0,none⟩)] w fun e w'=>e=.returned (.bool false)/\w=w':=by obtain⟨v,h0,h1,h2,h3⟩:=h.out;have k1:=h1.cell 1;go_enter func104,ntmps104;go_wp2;go_ret;exact⟨rfl,rfl⟩
theorem wire_wide(k:Int)(w:World):Calls prog 89 #[.int .i64 k] w fun e w'=>e=.returned (.bool (decide (1<=k)&&decide (k<=8)))/\w=w':=by
 by_cases h1:1<=k<;>by_cases h2:k<=8<;>
 ·go_enter func89,ntmps89;go_wp2;go_ret
  first | exact⟨rfl,rfl⟩ | simp[h1,h2]
theorem numB_at:∀(k n j:Nat),j<k->(numB k n)[j]?=some (UInt8.ofNat (n / 256^(k-1-j)%256))
 | 0,n,j,h=>by omega
 | k+1,n,j,h=>by
  unfold numB;rcases Nat.lt_or_ge j k with hj | hj
  ·rw[List.getElem?_append_left (by rw[numB_len];exact hj),numB_at k (n / 256) j hj,Nat.div_div_eq_div_mul,<-Nat.pow_succ',show(k-1-j).succ=k+1-1-j by omega]
  obtain rfl:j=k:=by omega
  rw[List.getElem?_append_right (by rw[numB_len];exact Nat.le_refl _),numB_len];simp
theorem numB_snoc(k n j:Nat)(h:j<k):(numB k n).take (j+1)=(numB k n).take j++[UInt8.ofNat (n / 256^(k-1-j)%256)]:=by rw[List.take_add_one,numB_at k n j h];rfl
theorem wire_laid(n k:Nat)(hk1:1<=k)(hk:k<=8)(w:World):
  Calls prog 161 #[.slice none 0 0,.int .u64 n,.int .i64 k] w fun e w'=>∃v,e=.returned v/\w'.ownsRow w.heap.size 5 1 v k (bs (numB k n))/\Below w.heap.size w w':=by
 go_enter func161,ntmps161;go_wp2_with fail
 go_loopw [0,7] (fun v i wr=>∃j:Nat,j<=k/\i=.int .i64 ((k:Int)-1-j)/\wr.ownsRow w.heap.size 5 1 v j (bs ((numB k n).take j))/\Below w.heap.size w wr) (fun _ i _=>(intOf i+1).toNat)
 case atStart=>exact⟨0,Nat.zero_le _,by go_num,World.ownsRow_nil _ _ _ _,Below.refl _ _⟩
 case round=>
  obtain⟨j,hj,rfl,how,hbel⟩:=hrel;by_cases hlt:j<k
  ·obtain⟨y,hy⟩:=gen_of (UInt8.ofNat (n / 256^(k-1-j)%256):UInt8);have hyn:(n:Int) / 2^(8*(k-1-j))%256=(y.toNat:Int):=by
    have e:(2:Int)^(8*(k-1-j))=((256^(k-1-j):Nat):Int):=by rw[Int.pow_mul];simp
    rw[<-hy,u8_of _ (Nat.mod_lt _ (by decide)),e];rfl
   have hs:bs ((numB k n).take (j+1))=bs ((numB k n).take j)++[.int .u8 y.toNat]:=by rw[numB_snoc k n j hlt,hy,bs_snoc]
   obtain⟨xs,hxs⟩:=gen_of (bs ((numB k n).take j));rw[hxs]at how hs;replace hs:=hid hs;clear hxs hy;have hsz:=hbel.size;go_wp2_with (at_builtin;refine append_one rfl _ _ rfl Tryz.eByte w.heap.size _ _ _ rfl how (.int .u8 y.toNat) rfl rfl (by omega) (by omega) (by omega) ?_;intro v' w4 how4 hg4)
   go_roundw
   case rel=>refine⟨j+1,by omega,by go_num,?_,hbel.grown hg4 (by omega) (fun q hq=>(how.lt q hq).1)⟩;rw[hs.out];exact how4
   case measure=>simp[intOf];omega
  obtain rfl:j=k:=by omega
  rw[List.take_of_length_le (by rw[numB_len];exact Nat.le_refl _)]at how;go_wp2;go_ret;exact⟨_,rfl,how,hbel⟩
theorem wire_put{w:World}{F:List Nat}{p:Nat}{l:List UInt8}(h:Wr w F p l)(hl:l.length<=65536)(base2:Nat)(u:Value)(m:List UInt8)(hu:w.ownsRow base2 5 1 u m.length (bs m))(hn:m.length<=70368744177664):
  Calls prog 160 #[.pointer (some ⟨p,0,none⟩),u] w fun e w'=>∃(ok:Bool)(F':List Nat),ok=decide (l.length+m.length<=65536)/\e=.returned (.int .i64 (if ok then 0 else 3))/\Wr w' F' p (if ok then l++m else l)/\Stp F F' w w':=by
 have H:=hid h;obtain⟨v,rfl,h1,h2,h4⟩:=h.out;obtain⟨av,cv,rfl⟩:=own_slice h2;have hlt:=h1.lt;have k0:=h1.cell 0;simp at k0;obtain⟨k,hk⟩:=gen_of l.length;obtain⟨n,hm⟩:=gen_of m.length;rw[hk]at h1 h2 k0 hl h4 H;rw[show blk (.slice av l.length cv)=blk (.slice av k cv) by cases av<;>rfl];rw[hm]at hu hn;obtain⟨au,cu,rfl⟩:=own_slice hu;have H1:=hid h1;have H2:=hid h2;have HU:=hid hu;have HK:=hid hk;have HM:=hid hm;clear h1 h2 hm hk hu;by_cases hle:k+n<=65536
 ·go_enter func160,ntmps160;go_wp2_with (first
   | (at_builtin;refine wpList_plain rfl fun _ hK=>wp_append_rows _ _ rfl Tryz.eByte (by decide) 0 _ _ _ rfl H2.out base2 _ _ (bs m) rfl HU.out (bs_one m) (by omega) (by omega) (Nat.zero_le _) fun v' w4 how4 hg4 hn4=>hK _ _ ?_;obtain⟨a5,c5,rfl⟩:=own_slice how4;have hw4:=Wrote.of_grown hg4 (fun j hj=>mem_blk.2 hj);have hp4:=H1.keepW hw4 h4)
   | (refine wpList_store_cell rfl 22 170 _ _ rfl (fun w=>by kernel_rfl) p 0 _ _ rfl rfl hp4 (by simp) rfl rfl ?_;intro w5 hp5 hw5))
  go_ret;have hp6:p∉blk (.slice a5 (k+n) c5):=fun hx=>block_not_row hp4 (by decide) how4 (mem_blk.1 hx).symm;have how5:=not_own how4 hw5 (fun y hy hb=>by rw[List.mem_singleton]at hy;subst hy;exact hp6 hb)
  refine⟨true,_,by rw[HK.out,HM.out];simp[hle],rfl,⟨_,rfl,hp5,?_,hp6⟩,⟨(hw4.sub (fun x hx=>List.mem_cons_of_mem _ hx)).trans (hw5.sub (fun x hx=>by rw[List.mem_singleton]at hx;subst hx;exact List.mem_cons_self ..)),fun x hx=>?_⟩⟩
  ·rw[if_pos rfl,List.length_append,HK.out,HM.out,bs_app];exact how5
  rcases List.mem_cons.1 hx with rfl | hx
  ·exact .inl (List.mem_cons_self ..)
  rcases hn4 x (mem_blk.1 hx)with h7 | h7
  ·exact .inl (List.mem_cons_of_mem _ (mem_blk.2 h7))
  exact .inr h7
 go_enter func160,ntmps160;go_wp2;go_ret;exact⟨false,_,by rw[HK.out,HM.out];simp[hle],rfl,H.out,Stp.refl _ _⟩
def fits(l m:List UInt8):Bool:=decide (l.length+m.length<=65536)
theorem strCells_bs(s:List UInt8):Go.Lib.strCells ⟨s.toArray⟩=bs s:=by simp[Go.Lib.strCells,bs]
theorem wire_Number{w:World}{F:List Nat}{p:Nat}{l:List UInt8}(h:Wr w F p l)(hl:l.length<=65536)(n k:Nat)(hk1:1<=k)(hk:k<=2)(hn:n<256^k):
  Calls prog 97 #[.pointer (some ⟨p,0,none⟩),.int .u64 n,.int .i64 k] w fun e w'=>∃(ok:Bool)(F':List Nat),ok=fits l (numB k n)/\e=.returned (.int .i64 (if ok then 0 else 3))/\Wr w' F' p (if ok then l++numB k n else l)/\Stp F F' w w':=by
 have H:=hid h;have CN:=hid (wire_wnone h);have CW:=hid (wire_wide k w);have CL:=hid (wire_laid n k hk1 (by omega) w);have hsh:(n:Int) / 2^(8*k)=0:=by
  have e:(2:Int)^(8*k)=((256^k:Nat):Int):=by rw[Int.pow_mul];simp
  rw[e];exact Int.ediv_eq_zero_of_lt (by omega) (by exact_mod_cast hn)
 have dw:(decide (1<=(k:Int))&&decide ((k:Int)<=8))=true:=by simp;omega
 rw[dw]at CW;clear hn;go_enter func97,ntmps97;go_wp2_with fail
 apply wp_scope_fwd 0 rfl;go_wp2_with (first
  | (go_at_call 104;refine CN.mono ?_;rintro e w' ⟨rfl,rfl⟩)
  | (go_at_call 89;refine CW.mono ?_;rintro e w' ⟨rfl,rfl⟩)
  | (go_at_call 161;refine CL.mono ?_;rintro e w1 ⟨v1,rfl,how1,hb1⟩))
 have hnl:=numB_len k n;refine(wire_put (H.below hb1) hl _ v1 (numB k n) (by rw[hnl];exact how1) (by omega)).mono ?_;rintro e w2 ⟨ok,F2,hok,rfl,hw2,hb2⟩;have hw2:=hid hw2;replace hok:=hid hok;obtain⟨q,hq⟩:=gen_of ((if ok then 0 else 3):Int);rw[hq];replace hq:=hid hq;go_wp2_with fail;rw[exitFwd_ret];go_ret;exact⟨ok,F2,hok.out,by rw[hq.out];rfl,hw2.out,(Stp.below hb1).trans hb2⟩
theorem wire_Text{w:World}{F:List Nat}{p:Nat}{l:List UInt8}(h:Wr w F p l)(hl:l.length<=65536)(s:List UInt8)(hs:s.length<=35184372088832):
  Calls prog 93 #[.pointer (some ⟨p,0,none⟩),.string ⟨s.toArray⟩] w fun e w'=>∃(ok:Bool)(F':List Nat),ok=(decide (s.length<=65535)&&fits l (txtB s))/\e=.returned (.int .i64 (if ok then 0 else 3))/\Wr w' F' p (if ok then l++txtB s else l)/\Stp F F' w w':=by
 have H:=hid h;have CN:=hid (wire_wnone h);have CL:=hid (wire_laid s.length 2 (by decide) (by decide) w);obtain⟨n,hn⟩:=gen_of s.length;obtain⟨z,hz⟩:∃z:Int,z=(n:Int):=⟨_,rfl⟩;have HN:=hid hn;rw[hn]at CL;obtain⟨i0,hi,hz0,hz1,hz2⟩:=info_parts Tryz.infoB;by_cases hle:n<=65535
 ·go_enter func93,ntmps93;go_wp2_with (first
   | (go_at_call 104;refine CN.mono ?_;rintro e w' ⟨rfl,rfl⟩)
   | (go_at_call 161;refine CL.mono ?_;rintro e w1 ⟨v1,rfl,how1,hb1⟩;have hsz:=hb1.size)
   | (at_builtin;refine Go.Lib.wpList_append_own_string _ rfl _ _ 22 9 rfl _ 5 i0 underlying22 underlying9 hi hz0 hz1 hz2 _ _ _ rfl how1 ⟨s.toArray⟩ rfl (by show 2+s.toArray.size<=_;unfold maxLen;simp;omega) (by show 2+s.toArray.size<=_;simp;omega) (by omega) ?_;intro v' w4 how4 hg4 _))
  have hs2:(⟨s.toArray⟩:ByteArray).size=n:=hn;rw[hs2,strCells_bs,<-bs_app]at how4;have hb4:Below w.heap.size w w4:=hb1.grown hg4 (by omega) (fun q hq=>(how1.lt q hq).1);have htl:txtB s=numB 2 n++s:=by unfold txtB;rw[hn]
  have hnl:(numB 2 n++s).length=2+n:=by rw[List.length_append,numB_len,hn]
  rw[<-htl]at how4 hnl;refine(wire_put (H.below hb4) hl _ v' (txtB s) (by rw[hnl];exact how4) (by omega)).mono ?_;rintro e w2 ⟨ok,F2,hok,rfl,hw2,hb2⟩;have hw2:=hid hw2;replace hok:=hid hok;obtain⟨q,hq⟩:=gen_of ((if ok then 0 else 3):Int);rw[hq];replace hq:=hid hq;clear hnl htl hs2;go_wp2_with fail;go_ret;refine⟨ok,F2,?_,by rw[hq.out];rfl,hw2.out,(Stp.below hb4).trans hb2⟩;rw[hok.out];unfold fits;rw[HN.out,decide_eq_true hle,Bool.true_and]
 go_enter func93,ntmps93;go_wp2_with (go_at_call 104;refine CN.mono ?_;rintro e w' ⟨rfl,rfl⟩)
 go_ret;exact⟨false,_,by rw[HN.out,decide_eq_false hle,Bool.false_and],rfl,H.out,Stp.refl _ _⟩
theorem nil_eq(a:Option Addr)(n c:Nat)(W:World):(binOp .eql 22 (.slice a n c) (.slice none 0 0)).run prog W=.ok (.bool a.isNone) W:=by simp[binOp,run_equal_slice_nil _ _ _ a n c underlying22]
theorem sl_Clone(a:Option Addr)(n c:Nat)(l:List UInt8)(w:World)(hr:RowAt w a n c (bs l))(hn:n<=70368744177664):
  Calls prog 41 #[.slice a n c] w fun e w'=>∃v,e=.returned v/\w'.ownsRow w.heap.size 5 1 v n (bs l)/\Below w.heap.size w w':=by
 have hne:=nil_eq a n c;cases a with
 |none=>
  have hc:=hr.hnil rfl;have hn0:n=0:=by have:=hr.le;omega
  subst hc hn0;have hl:=hr.len;have hl0:bs l=[]:=List.eq_nil_of_length_eq_zero hl;rw[hl0];clear hl hl0 hr;go_enter func41,ntmps41;go_wp2;go_ret;exact⟨_,rfl,World.ownsRow_nil _ _ _ _,Below.refl _ _⟩
 |some ad=>
  have hr':=hr.alloc (.cells #[] 5);have hown:(w.alloc (.cells #[] 5)).ownsRow w.heap.size 5 1 (.slice (some ⟨w.heap.size,0,none⟩) 0 0) 0 []:=⟨rfl,.inr ⟨w.heap.size,0,#[],rfl,Nat.le_refl _,Blk.new _ _ _,Nat.le_refl _,by decide,rfl,rfl⟩⟩;go_enter func41,ntmps41;go_wp2_with (at_builtin;refine append_any rfl _ _ rfl Tryz.eByte w.heap.size _ _ _ rfl hown _ _ _ (bs l) (bs_one l) rfl hr' (by omega) (by omega) (by simp) ?_;intro v' w4 how4 hg4)
  go_ret;rw[Nat.zero_add,List.nil_append]at how4;exact⟨_,rfl,how4,((Below.refl _ w).alloc nat_le_rfl _).grown hg4 (by simp) (fun q hq=>by have h7:some w.heap.size=some q:=hq;cases h7;exact Nat.le_refl _)⟩
theorem wire_Bytes{w:World}{F:List Nat}{p:Nat}{l:List UInt8}(h:Wr w F p l)(hl:l.length<=65536):
  Calls prog 80 #[.pointer (some ⟨p,0,none⟩)] w fun e w'=>∃v,e=.returned v/\w'.ownsRow w.heap.size 5 1 v l.length (bs l)/\Below w.heap.size w w':=by
 have CN:=hid (wire_wnone h);obtain⟨v,h0,h1,h2,h3⟩:=h.out;obtain⟨a,c,rfl,hr⟩:=RowAt.of_own h2;have CC:=hid (sl_Clone a l.length c l w hr (by omega));have k0:=h1.cell 0;simp at k0;go_enter func80,ntmps80;go_wp2_with (first
  | (go_at_call 104;refine CN.mono ?_;rintro e w' ⟨rfl,rfl⟩)
  | (go_at_call 41;refine CC.mono ?_;rintro e w1 ⟨v1,rfl,ho1,hb1⟩))
 go_ret;exact⟨_,rfl,ho1,hb1⟩
structure Rd (w:World)(B p:Nat)(l:List UInt8):Prop where
 out:∃a n c,Blk w p #[.slice a n c,.bool true] 94/\RowAt w a n c (bs l)/\p<B/\(∀x,a=some x->x.block≠p/\x.block<B)
 base:B<=w.heap.size
 len:l.length<=70368744177664
theorem RowAt.wrote{w w':World}{a:Option Addr}{n c:Nat}{cs:List Value}(h:RowAt w a n c cs){M:List Nat}(hw:Wrote M w w')(hM:∀x,a=some x->x.block∉M):RowAt w' a n c cs:=
 ⟨h.len,h.le,h.max,h.hnil,fun i hi=>by
  obtain⟨b,off,ha,hc⟩:=h.cells i hi;have hs:w.cell? ⟨b,off+i,none⟩=some (cs[i]'(by have:=h.len;omega)):=by rw[hc];exact List.getElem?_eq_getElem _
  refine⟨b,off,ha,?_⟩;rw[<-hc];unfold World.cell?;rw[hw.block b (cell_lt hs) (hM _ ha)]⟩
theorem Rd.wrote{w w':World}{B p:Nat}{l:List UInt8}(h:Rd w B p l){M:List Nat}(hw:Wrote M w w')(hM:∀x∈M,B<=x):Rd w' B p l:=by obtain⟨⟨a,n,c,h1,h2,h3,h4⟩,h5,h6⟩:=h;exact⟨⟨a,n,c,h1.keepW hw (fun hx=>by have:=hM _ hx;omega),h2.wrote hw (fun x hx hm=>by have:=hM _ hm;have:=(h4 x hx).2;omega),h3,h4⟩,Nat.le_trans h5 hw.size,h6⟩
theorem Rd.below{w w':World}{B p:Nat}{l:List UInt8}(h:Rd w B p l)(hb:Below w.heap.size w w'):Rd w' B p l:=h.wrote (M:=[]) (Wrote.of_below hb) (fun x hx=>by cases hx)
theorem Rd.lt{w:World}{B p:Nat}{l:List UInt8}(h:Rd w B p l):p<B:=by obtain⟨⟨a,n,c,h1,h2,h3,h4⟩,h5⟩:=h;exact h3
theorem cut_2(a:Option Addr)(n c k:Nat)(hk:k<=n)(hc:n<=c)(W:World):(Instr.slice 22 (.slice a n c) none (some (.int .i64 k)) (some (.int .i64 k))).run prog W=.ok (.slice a k k) W:=by have h:=run_slice_hm W 22 a n c Tryz.uelB .i64 .i64 k k (by omega) (by omega) (by omega);rw[h,Tryz.szB];cases a<;>simp[sliced,Addr.add]
theorem wire_take1{w:World}{B p:Nat}{l:List UInt8}(h:Rd w B p l)(q:Nat)(hq:Boxed w q 58 (.pointer (some ⟨p,0,none⟩)))(k:Nat)(hk:k<=70368744177664):
  Calls prog 119 #[.int .i64 k,.pointer (some ⟨q,0,none⟩)] w fun e w'=>
   (l.length<k/\e=.returned (.tuple #[.slice none 0 0,.bool false])/\w=w')\/
   (k<=l.length/\∃a c,e=.returned (.tuple #[.slice a k c,.bool true])/\RowAt w' a k c (bs (l.take k))/\Rd w' B p (l.drop k)/\Wrote [p] w w'):=by
 obtain⟨⟨a,n,c,h1,h2,h3,h4⟩,h5,h6⟩:=h;have hl:l.length=n:=by have:=h2.len;rwa [bs_len]at this
 have hpq:p≠q:=fun e=>by subst e;have:=h1.symm.trans hq;simp at this
 have kq:=hq.cell;have k0:=h1.cell 0;simp at k0;have HL:=hid hl;by_cases hkl:k<=n
 ·have hc2:=cut_2 a n c k hkl h2.le;have hcut:=fun W=>run_cut_l Tryz.uelB Tryz.szB a n c (k:Int) k rfl hkl W;have H1:=hid h1;have H2:=hid h2;have H4:=hid h4;have hle:=h2.le;clear hl h1 h2 h4;go_enter func119,ntmps119;go_wp2_with fail
  refine regionQ [(11,fun w'=>Blk w' p #[.slice a n c,.bool true] 94),(1000,fun w'=>Boxed w' q 58 (.pointer (some ⟨p,0,none⟩)))] (by kernel_rfl) ⟨H1.out,hq,trivial⟩ fun KQ hKQ=>?_;refine lR 0 1 rfl rfl rfl rfl (fun w' hf=>by(have k0:=hf.cell;go_simp<;>with_reducible rfl)) ?_;simp only[PT];refine lR 1 1 rfl rfl rfl rfl (fun w' hf=>by(have k0:=hf.cell;go_simp<;>with_reducible rfl)) ?_;simp only[PT];refine nQ 2 ?_;refine tQ [3,4] ?_;refine lR 5 0 rfl rfl rfl rfl (fun w' hf=>by(have k0:=hf.cell 0;simp at k0;go_simp<;>with_reducible rfl)) ?_;simp only[PT];refine tQ [6] ?_;refine sliceQ 7 rfl (by kernel_rfl) (by kernel_rfl) rfl Tryz.uelB _ hcut ?_;try simp only[PT]
  refine nQ 8 ?_;refine tQ [9,10] ?_;refine sQ 11 fun K hK=>?_;simp only[GO];refine wp_store_cell 22 94 _ _ rfl (fun w=>by kernel_rfl) p 0 _ _ rfl rfl (show Blk w.drew p _ _ from H1.out) (by simp) rfl rfl ?_;intro w5 hp5 hw5;refine hK _ _ ⟨⟨(fun h=>by cases h),fun _=>hw5.boxed (by simp;omega) hq,trivial⟩,?_⟩;clear hK K;try simp only[PT]
  refine dQ (hKQ.out _ _ ?_);clear hKQ KQ;go_wp2
  go_ret2
  have hw:Wrote [p] w w5:=⟨hw5.os,hw5.tape,hw5.output,hw5.size,fun k hk=>hw5.block k hk⟩;have hlt:=hq.lt;have hl:=HL.out;refine .inr ⟨by omega,a,k,rfl,?_,⟨⟨_,_,_,hp5,?_,h3,?_⟩,Nat.le_trans h5 hw.size,by simp;omega⟩,hw⟩
  ·have hr:=(H2.wrote hw (fun x hx hm=>(H4 x hx).1 (by simpa using hm))).take k hkl;rw[bs_take]at hr;exact⟨hr.len,Nat.le_refl _,by have:=hr.max;have:=hr.le;omega,fun e=>by have:=H2.hnil e;omega,hr.cells⟩
  ·have hr:=(H2.wrote hw (fun x hx hm=>(H4 x hx).1 (by simpa using hm))).from hkl;rw[bs_drop]at hr;exact hr
  intro x hx;unfold cutA at hx;split at hx
  ·exact H4 x hx
  cases a with
  | none=>simp at hx
  |some y=>simp at hx;subst hx;have h7:=H4 y rfl;unfold Addr.add;split<;>exact h7
 go_enter func119,ntmps119;go_wp2
 go_ret2
 exact .inl ⟨by omega,rfl,rfl⟩
theorem wire_rnone{w:World}{B p:Nat}{l:List UInt8}(h:Rd w B p l):Calls prog 44 #[.pointer (some ⟨p,0,none⟩)] w fun e w'=>e=.returned (.bool false)/\w=w':=by obtain⟨⟨a,n,c,h1,h2,h3,h4⟩,h5,h6⟩:=h;have k1:=h1.cell 1;go_enter func44,ntmps44;go_wp2;go_ret;exact⟨rfl,rfl⟩
theorem wire_Left{w:World}{B p:Nat}{l:List UInt8}(h:Rd w B p l):Calls prog 25 #[.pointer (some ⟨p,0,none⟩)] w fun e w'=>e=.returned (.int .i64 l.length)/\w=w':=by
 have CN:=hid (wire_rnone h);obtain⟨⟨a,n,c,h1,h2,h3,h4⟩,h5,h6⟩:=h;have hl:l.length=n:=by have:=h2.len;rwa [bs_len]at this
 have k0:=h1.cell 0;simp at k0;rw[hl];go_enter func25,ntmps25;go_wp2_with (go_at_call 44;refine CN.mono ?_;rintro e w' ⟨rfl,rfl⟩)
 go_ret;exact⟨rfl,rfl⟩
theorem wire_take(p:Nat)(w:World):Calls prog 90 #[.pointer (some ⟨p,0,none⟩)] w fun e w'=>e=.returned (.func (.func 119) #[] #[.pointer (some ⟨w.heap.size,0,none⟩)])/\w.alloc (.cells #[.pointer (some ⟨p,0,none⟩)] 58)=w':=by have hmf:∀(fn:Fn)(first cap:Array Value)(w:World),(Instr.makeFunc fn first cap).run prog w=.ok (.func fn first cap) w:=fun _ _ _ _=>rfl;go_enter func90,ntmps90;go_wp2;go_ret;exact⟨rfl,rfl⟩
theorem wire_NewReader(a:Option Addr)(n c:Nat)(l:List UInt8)(w:World)(hr:RowAt w a n c (bs l))(hn:n<=70368744177664):
  Calls prog 20 #[.slice a n c] w fun e w'=>∃p,e=.returned (.pointer (some ⟨p,0,none⟩))/\w.heap.size<=p/\Rd w' w'.heap.size p l/\Below w.heap.size w w':=by
 have CC:=hid (sl_Clone a n c l w hr hn);go_enter func20,ntmps20;go_wp2_with (go_at_call 41;refine CC.mono ?_;rintro e w1 ⟨v1,rfl,ho1,hb1⟩;obtain⟨a1,c1,rfl⟩:=own_slice ho1)
 go_ret;obtain⟨a2,c2,e2,hr2⟩:=RowAt.of_own ho1;cases e2;have hsz:=hb1.size;have hln:l.length=n:=by have:=hr.len;rwa [bs_len]at this
 refine⟨w1.heap.size,rfl,hsz,⟨⟨a1,n,c1,Blk.new _ _ _,hr2.alloc _,by simp,fun x hx=>?_⟩,Nat.le_refl _,by omega⟩,hb1.alloc hsz _⟩;subst hx;obtain⟨b,off,spot⟩:=x;have hlt:=fun k=>ho1.lt k;have:=(ho1.lt b (by simp[Value.ownBlock])).2;simp;omega
theorem wrap_u(n:Nat)(h:n<18446744073709551616):IntKind.u64.wrap (n:Int)=n:=by rw[IntKind.wrap_u64];omega
theorem or_add(x b:Nat)(hx:x<65536)(hb:b<256):bits .or .u64 (IntKind.u64.wrap ((x:Int)*256)) (IntKind.u64.wrap b)=((x*256+b:Nat):Int):=by
 have e1:(x:Int)*256=((x*256:Nat):Int):=by omega
 rw[e1,wrap_u _ (by omega),wrap_u _ (by omega),bits_or_u64_nat _ _ (by omega) (by omega)];have h:=Nat.shiftLeft_add_eq_or_of_lt (i:=8) (b:=b) (by omega) x;rw[Nat.shiftLeft_eq]at h;rw[<-h]
theorem rNum_cases(k:Nat)(l:List UInt8):(l.length<k/\rNum k l=none)\/(k<=l.length/\rNum k l=some (beN (l.take k),l.drop k)):=by
 unfold rNum;by_cases h:l.length<k
 ·exact .inl ⟨h,if_pos h⟩
 exact .inr ⟨by omega,if_neg h⟩
theorem wire_rNumber{w:World}{B p:Nat}{l:List UInt8}(h:Rd w B p l)(k:Nat)(hk1:1<=k)(hk:k<=2):
  Calls prog 42 #[.pointer (some ⟨p,0,none⟩),.int .i64 k] w fun e w'=>
   (l.length<k/\e=.returned (.tuple #[.int .u64 0,.int .i64 130])/\Below w.heap.size w w')\/
   (k<=l.length/\e=.returned (.tuple #[.int .u64 (beN (l.take k)),.int .i64 0])/\Rd w' B p (l.drop k)/\Wrote [p] w w'):=by
 have CN:=hid (wire_rnone h);have CW:=hid (wire_wide k w);have CT:=hid (wire_take p w);have hb1:Below w.heap.size w (w.alloc (.cells #[.pointer (some ⟨p,0,none⟩)] 58)):=bel_refl.alloc nat_le_rfl _;have C1:=hid (wire_take1 (h.below hb1) w.heap.size (Boxed.new w _ _) k (by omega));have dw:(decide (1<=(k:Int))&&decide ((k:Int)<=8))=true:=by simp;omega
 rw[dw]at CW;have hpl:=h.lt;have hba:=h.base;go_enter func42,ntmps42;go_wp2_with (first
  | (go_at_call 44;refine CN.mono ?_;rintro e w' ⟨rfl,rfl⟩)
  | (go_at_call 89;refine CW.mono ?_;rintro e w' ⟨rfl,rfl⟩)
  | (go_at_call 90;refine CT.mono ?_;rintro e w1 ⟨rfl,rfl⟩))
 refine C1.mono ?_;rintro e w2 (⟨hlt,rfl,rfl⟩ | ⟨hle,a2,c2,rfl,hr2,hR2,hw2⟩)
 ·go_wp2
  go_ret2
  exact .inl ⟨hlt,rfl,hb1⟩
 have HR2:=hid hR2;have HW2:=hid hw2;have HL:=hid hle;obtain⟨m,hm⟩:=gen_of (l.take k);rw[hm]at hr2;have HM:=hid hm;clear hw2 hR2 hm hle;go_wp2_with fail;go_loopw [8,27] (fun v i wr=>∃j:Nat,j<=k/\i=.int .i64 j/\v=.int .u64 (beN (m.take j))/\w2=wr) (fun _ i _=>k-(intOf i).toNat)
 case atStart=>exact⟨0,Nat.zero_le _,by go_num,rfl,rfl⟩
 case round=>
  obtain⟨j,hj,rfl,rfl,rfl⟩:=hrel;by_cases hjk:j<k
  ·obtain⟨b,off,ha,hcell⟩:=hr2.byte hjk;subst ha;have hs:beN (m.take (j+1))=beN (m.take j)*256+(m[j]?.getD 0).toNat:=by
    have hml:j<m.length:=by have:=hr2.len;rw[bs_len]at this;omega
    rw[List.take_add_one,List.getElem?_eq_getElem hml];exact beN_snoc _ _
   have hx:beN (m.take j)<65536:=by
    have h1:=beN_lt (m.take j);have h2:(m.take j).length<=1:=by simp;omega
    have h3:256^(m.take j).length<=256^1:=Nat.pow_le_pow_right (by decide) h2;omega
   have ho:=or_add (beN (m.take j)) (m[j]?.getD 0).toNat hx (m[j]?.getD 0).toNat_lt;rw[<-hs]at ho;obtain⟨x,hX⟩:=gen_of (beN (m.take j));obtain⟨y,hY⟩:=gen_of ((m[j]?.getD 0).toNat);rw[hX,hY]at ho;rw[hY]at hcell;rw[hX];clear hs hx hX hY;replace ho:=hid ho;go_wp2_with fail;refine⟨⟨j+1,by omega,by go_num,by rw[ho.out],trivial⟩,by simp[intOf];omega⟩
  obtain rfl:j=k:=by omega
  rw[List.take_of_length_le (by have:=hr2.len;rw[bs_len]at this;omega)];go_wp2
  go_ret2
  rw[<-HM.out];exact .inr ⟨HL.out,rfl,HR2.out,(Wrote.alloc _ _ _).trans HW2.out⟩
theorem wire_rText{w:World}{B p:Nat}{l:List UInt8}(h:Rd w B p l):
  Calls prog 43 #[.pointer (some ⟨p,0,none⟩)] w fun e w'=>
   (rTxt l=none/\e=.returned (.tuple #[.string ⟨#[]⟩,.int .i64 130])/\Rd w' B p l/\Wrote [p] w w')\/
   ∃x,rTxt l=some x/\e=.returned (.tuple #[.string ⟨x.1.toArray⟩,.int .i64 0])/\Rd w' B p x.2/\Wrote [p] w w':=by
 have CN:=hid (wire_rnone h);have CR:=hid (wire_rNumber h 2 (by decide) (by decide));have CT:=hid (fun w=>wire_take p w);have H:=hid h;obtain⟨⟨a,n,c,h1,h2,h3,h4⟩,h5,h6⟩:=h;have k0:=h1.cell 0;simp at k0;have H1:=hid h1;have H2:=hid h2;have H4:=hid h4;clear h1 h2 h4;go_enter func43,ntmps43;go_wp2_with (go_at_call 44;refine CN.mono ?_;rintro e w' ⟨rfl,rfl⟩)
 refine CR.mono ?_;rintro e w1 (⟨hlt,rfl,hb1⟩ | ⟨hle,rfl,hR1,hw1⟩)
 ·have hn:rTxt l=none:=by
   rcases rNum_cases 2 l with⟨_,h7⟩ | ⟨h7,_⟩
   ·unfold rTxt;rw[h7];rfl
   omega
  have HR1:=hid (H.below hb1);have HNN:=hid hn;have hB1:Wrote [p] w w1:=Wrote.of_below hb1;have HW1:=hid hB1;have C0:=hid (wire_take1 (HR1.below (bel_refl.alloc nat_le_rfl (.cells #[.pointer (some ⟨p,0,none⟩)] 58))) w1.heap.size (Boxed.new w1 _ _) 0 (by omega));go_wp2_with (go_at_call 90;refine(CT _).mono ?_;rintro e w2 ⟨rfl,rfl⟩)
  refine C0.mono ?_;rintro e w2 (⟨hlt2,rfl,rfl⟩ | ⟨hle2,a2,c2,rfl,hr2,hR2,hw2⟩)
  ·omega
  have HW2:=hid ((Wrote.alloc [p] w1 (.cells #[.pointer (some ⟨p,0,none⟩)] 58)).trans hw2);obtain⟨⟨a3,n3,c3,hb3, -, -, -⟩, -, -⟩:=hR2;clear hw2 hr2;go_wp2_with (refine wpList_store_cell rfl 22 94 _ _ rfl (fun w=>by kernel_rfl) p 0 _ _ rfl rfl hb3 (by simp) rfl rfl ?_;intro w5 hp5 hw5)
  go_ret2
  have hall:=(HW1.trans HW2.out).trans hw5;exact .inl ⟨HNN.out,rfl,⟨⟨a,n,c,hp5,H2.wrote hall (fun x hx hm=>(H4 x hx).1 (by simpa using hm)),h3,H4.out⟩,Nat.le_trans h5 hall.size,h6⟩,hall⟩
 have HR1:=hid hR1;have HW1:=hid hw1;have h8:rNum 2 l=some (beN (l.take 2),l.drop 2):=by
  rcases rNum_cases 2 l with⟨h7,_⟩ | ⟨_,h7⟩
  ·omega
  exact h7
 have hbl:beN (l.take 2)<65536:=by
  have h1:=beN_lt (l.take 2)
  rwa [List.length_take_of_le hle]at h1
 obtain⟨m,hm⟩:=gen_of (beN (l.take 2));have ht:rTxt l=if (l.drop 2).length<m then none else some ((l.drop 2).take m,(l.drop 2).drop m):=by unfold rTxt;rw[h8,Option.bind_some,hm]
 rw[hm]at hbl;rw[hm];have HT:=hid ht;have C0:=hid (wire_take1 (HR1.below (bel_refl.alloc nat_le_rfl (.cells #[.pointer (some ⟨p,0,none⟩)] 58))) w1.heap.size (Boxed.new w1 _ _) m (by omega));clear ht h8 hm hle hw1 hR1;go_wp2_with (go_at_call 90;refine(CT _).mono ?_;rintro e w2 ⟨rfl,rfl⟩);refine C0.mono ?_;rintro e w2 (⟨hlt2,rfl,hww⟩ | ⟨hle2,a2,c2,rfl,hr2,hR2,hw2⟩)
 ·have HW2:=hid (Wrote.alloc [p] w1 (.cells #[.pointer (some ⟨p,0,none⟩)] 58));have hR2:=HR1.below (bel_refl.alloc nat_le_rfl (.cells #[.pointer (some ⟨p,0,none⟩)] 58));rw[hww]at HW2 hR2;clear hww;obtain⟨⟨a3,n3,c3,hb3, -, -, -⟩, -, -⟩:=hR2;have HL2:=hid hlt2;clear hlt2;go_wp2_with (refine wpList_store_cell rfl 22 94 _ _ rfl (fun w=>by kernel_rfl) p 0 _ _ rfl rfl hb3 (by simp) rfl rfl ?_;intro w5 hp5 hw5)
  go_ret2
  have hall:=(HW1.trans HW2.out).trans hw5;exact .inl ⟨by rw[HT.out,if_pos HL2.out],rfl,⟨⟨a,n,c,hp5,H2.wrote hall (fun x hx hm=>(H4 x hx).1 (by simpa using hm)),h3,H4.out⟩,Nat.le_trans h5 hall.size,h6⟩,hall⟩
 have HL2:=hid hle2;have HW2:=hid ((Wrote.alloc [p] w1 (.cells #[.pointer (some ⟨p,0,none⟩)] 58)).trans hw2);have HR2:=hid hR2;have hstr:=run_str hr2;clear hle2 hw2 hR2;go_wp2_with fail
 go_ret2
 exact .inr ⟨_,by rw[HT.out,if_neg (by have:=HL2.out;omega)],rfl,HR2.out,HW1.trans HW2.out⟩
theorem sc_number{w:World}{B p:Nat}{l:List UInt8}(h:Rd w B p l)(k:Nat)(hk1:1<=k)(hk:k<=2):
  Calls prog 23 #[.agg #[.pointer (some ⟨p,0,none⟩)],.int .i64 k] w fun e w'=>(rNum k l=none/\e=.panicked (given 390)/\Wrote [p] w w')\/∃x,rNum k l=some x/\e=.returned (.int .i64 x.1)/\Rd w' B p x.2/\Wrote [p] w w':=by
 have hb0:Below w.heap.size w (w.alloc (.cells #[.pointer (some ⟨p,0,none⟩)] 61)):=bel_refl.alloc nat_le_rfl _;have CR:=hid (wire_rNumber (h.below hb0) k hk1 hk);have CM:=hid sc_must;have W0:Wrote [p] w (w.alloc (.cells #[.pointer (some ⟨p,0,none⟩)] 61)):=Wrote.alloc _ _ _;have W0:=hid W0;rcases rNum_cases k l with⟨hlt,hn⟩ | ⟨hle,hn⟩
 ·have HN:=hid hn;go_enter func23,ntmps23;go_wp2_with fail
  refine CR.mono ?_;rintro e w1 (⟨_,rfl,hb1⟩ | ⟨hle,rfl,hR1,hw1⟩)
  ·have HB:=hid hb1;clear hb1 hlt;go_wp2_with (go_at_call 19;refine(CM _ _ _).mono ?_;rintro e w2 ⟨rfl,rfl⟩);exact⟨rfl,.inl ⟨HN.out,rfl,W0.trans (Wrote.of_below HB.out)⟩⟩
  omega
 have HN:=hid hn;have hbl:beN (l.take k)<65536:=by
  have h1:=beN_lt (l.take k);have h2:(l.take k).length<=2:=by simp;omega
  have h3:256^(l.take k).length<=256^2:=Nat.pow_le_pow_right (by decide) h2;omega
 obtain⟨m,hm⟩:=gen_of (beN (l.take k));rw[hm]at CR hbl HN;obtain⟨z,hz⟩:∃z:Int,z=(m:Int):=⟨_,rfl⟩;rw[<-hz]at CR;have hz1:0<=z:=by omega
 have hz2:z<65536:=by omega
 have HZ:=hid hz;clear hm hz hn hbl;go_enter func23,ntmps23;go_wp2_with fail
 refine CR.mono ?_;rintro e w1 (⟨hlt,rfl,hb1⟩ | ⟨_,rfl,hR1,hw1⟩)
 ·omega
 have HR:=hid hR1;have HW:=hid hw1;clear hR1 hw1 hle;go_wp2_with (go_at_call 19;refine(CM _ _ _).mono ?_;rintro e w2 ⟨rfl,rfl⟩);go_ret;exact .inr ⟨_,HN.out,by rw[HZ.out];rfl,HR.out,W0.trans HW.out⟩
theorem sc_rtext{w:World}{B p:Nat}{l:List UInt8}(h:Rd w B p l):
  Calls prog 24 #[.agg #[.pointer (some ⟨p,0,none⟩)]] w fun e w'=>(rTxt l=none/\e=.panicked (given 390)/\Wrote [p] w w')\/∃x,rTxt l=some x/\e=.returned (.string ⟨x.1.toArray⟩)/\Rd w' B p x.2/\Wrote [p] w w':=by
 have hb0:Below w.heap.size w (w.alloc (.cells #[.pointer (some ⟨p,0,none⟩)] 61)):=bel_refl.alloc nat_le_rfl _;have CR:=hid (wire_rText (h.below hb0));have CM:=hid sc_must;have W0:Wrote [p] w (w.alloc (.cells #[.pointer (some ⟨p,0,none⟩)] 61)):=Wrote.alloc _ _ _;have W0:=hid W0;go_enter func24,ntmps24;go_wp2_with fail
 refine CR.mono ?_;rintro e w1 (⟨hn,rfl,hR1,hw1⟩ | ⟨⟨s,r⟩,hn,rfl,hR1,hw1⟩)
 ·have HN:=hid hn;have HW:=hid hw1;clear hw1 hn;go_wp2_with (go_at_call 19;refine(CM _ _ _).mono ?_;rintro e w2 ⟨rfl,rfl⟩);exact⟨rfl,.inl ⟨HN.out,rfl,W0.trans HW.out⟩⟩
 have HN:=hid hn;have HW:=hid hw1;have HR:=hid hR1;clear hw1 hn hR1;dsimp only at HR;go_wp2_with (go_at_call 19;refine(CM _ _ _).mono ?_;rintro e w2 ⟨rfl,rfl⟩)
 go_ret;exact .inr ⟨_,HN.out,rfl,HR.out,W0.trans HW.out⟩
theorem sc_wtext{w:World}{F:List Nat}{p:Nat}{l:List UInt8}(h:Wr w F p l)(hl:l.length<=65536)(s:List UInt8)(hs:s.length<=35184372088832):
  Calls prog 55 #[.agg #[.pointer (some ⟨p,0,none⟩)],.string ⟨s.toArray⟩] w fun e w'=>∃F',Stp F F' w w'/\
   (((s.length<=65535/\fits l (txtB s)=true)/\e=.returned (.tuple #[])/\Wr w' F' p (l++txtB s))\/(¬(s.length<=65535/\fits l (txtB s)=true)/\e=.panicked (given 3))):=by
 have CT:=hid (wire_Text (h.alloc (.cells #[.pointer (some ⟨p,0,none⟩)] 102)) hl s hs);clear hs;replace hl:=hid hl;have CM:=hid sc_must;have W0:=hid (Stp.below (F:=F) ((Below.refl w.heap.size w).alloc nat_le_rfl (.cells #[.pointer (some ⟨p,0,none⟩)] 102)));go_enter func55,ntmps55;go_wp2_with fail
 refine CT.mono ?_;rintro e w1 ⟨ok,F1,hok,rfl,hw1,hs1⟩;replace hs1:=hid hs1;replace hok:=hid hok;obtain⟨q,hq⟩:=gen_of ((if ok then 0 else 3):Int);rw[hq];cases ok with
 | true=>
  rw[if_pos rfl]at hw1;replace hw1:=hid hw1;obtain rfl:0=q:=hq;go_wp2_with (go_at_call 19;refine(CM _ _ _).mono ?_;rintro e w2 ⟨rfl,rfl⟩)
  go_end0
  have h7:s.length<=65535/\fits l (txtB s)=true:=by have h8:=hok.symm;rw[Bool.and_eq_true,decide_eq_true_eq]at h8;exact h8
  exact⟨F1,W0.trans hs1.out,.inl ⟨h7,rfl,hw1.out⟩⟩
 |false=>obtain rfl:3=q:=hq;clear hw1;go_wp2_with (go_at_call 19;refine(CM _ _ _).mono ?_;rintro e w2 ⟨rfl,rfl⟩);have h7:=hok.out;refine⟨rfl,F1,W0.trans hs1.out,.inr ⟨fun h=>?_,rfl⟩⟩;rw[h.2,decide_eq_true h.1]at h7;cases h7
theorem LsAt.one(w:World)(z:Int)(T:TypeId):LsAt iCl 1 (w.alloc (.cells #[.int .i64 z] T)) (some ⟨w.heap.size,0,none⟩) 1 1 [z]:=
 ⟨rfl,Nat.le_refl _,by decide,fun i x hx=>by
  cases i with
  |zero=>simp at hx;subst hx;refine⟨w.heap.size,0,rfl,by simp,fun j v hj=>?_⟩;have hb:Blk (w.alloc (.cells #[.int .i64 z] T)) w.heap.size #[.int .i64 z] T:=Blk.new _ _ _;rw[hb.cell];simp only[Nat.zero_mul,Nat.zero_add];rw[<-Array.getElem?_toList];exact hj
  | succ i=>simp at hx⟩
theorem flat_numB(k:Nat)(xs:List Int):(xs.flatMap fun z=>numB k z.toNat).length=xs.length*k:=by
 induction xs with
 | nil=>simp
 | cons x xs ih=>rw[List.flatMap_cons,List.length_append,ih,numB_len,List.length_cons,Nat.add_mul];omega
theorem sc_numbers{w:World}{F:List Nat}{p:Nat}{l:List UInt8}(h:Wr w F p l)(hl:l.length<=65536)(k:Nat)(hk1:1<=k)(hk:k<=2)(xs:List Int)(hx:∀z∈xs,0<=z/\z<((256^k:Nat):Int))(a:Option Addr)(n c:Nat)(hr:LsAt iCl 1 w a n c xs)
  (hf:xs≠[]->∀x,a=some x->x.block∉F) (hn:n<=1000000):
  Calls prog 65 #[.agg #[.pointer (some ⟨p,0,none⟩)],.int .i64 k,.slice a n c] w fun e w'=>∃F',Stp F F' w w'/\
   ((fits l (xs.flatMap fun z=>numB k z.toNat)=true/\e=.returned (.tuple #[])/\Wr w' F' p (l++xs.flatMap fun z=>numB k z.toNat))\/(fits l (xs.flatMap fun z=>numB k z.toNat)=false/\e=.panicked (given 3))):=by
 have hmf:∀(fn:Fn)(first cap:Array Value)(w:World),(Instr.makeFunc fn first cap).run prog w=.ok (.func fn first cap) w:=fun _ _ _ _=>rfl;have hlen:xs.length=n:=hr.len;have CN:=hid (fun(W:World)(F1:List Nat)(l1:List UInt8)(hW:Wr W F1 p l1)(h1:l1.length<=65536)(m:Nat)(hm:m<256^k)=>wire_Number hW h1 m k hk1 hk hm);have CM:=hid sc_must;have H0:=hid (h.alloc (.cells #[.pointer (some ⟨p,0,none⟩)] 102));have HR:=hid hr;have W0:=hid (Stp.below (F:=F) ((Below.refl w.heap.size w).alloc nat_le_rfl (.cells #[.pointer (some ⟨p,0,none⟩)] 102)));have HL:=hid hlen;have hx:=hid hx;clear hlen hr;go_enter func65,ntmps65;go_wp2_with fail
 go_loopw [14] (fun i wr=>∃(j:Nat)(F1:List Nat),i=.int .i64 j/\j<=n/\l.length+j*k<=65536/\Hid (Wr wr F1 p (l++(xs.take j).flatMap fun z=>numB k z.toNat))/\Hid (Stp F F1 w wr)) (fun i _=>n-(intOf i).toNat)
 case atStart=>exact⟨0,F,by go_num,Nat.zero_le _,by omega,by simpa using H0,W0⟩
 case round=>
  obtain⟨j,F1,rfl,hj,hfit,hW,hS⟩:=hrel;by_cases hjn:j<n
  ·obtain⟨z,hz⟩:∃z,xs[j]?=some z:=⟨_,List.getElem?_eq_getElem (by rw[HL.out];exact hjn)⟩;obtain⟨b,off,ha,hbl,hrg⟩:=HR.at' j z hz;have hcell:wr.cell? ⟨b,off+j,none⟩=some (.int .i64 z):=by have h1:=hrg 0 (.int .i64 z) rfl;have h2:=hS.out.wrote.block b hbl (hf (List.ne_nil_of_mem (List.mem_of_getElem? hz)) _ ha);unfold World.cell? at h1 ⊢;rw[h2];simpa using h1
   subst ha;clear hrg hbl;obtain⟨hz0,hz1⟩:=hx z (List.mem_of_getElem? hz);obtain⟨m,rfl⟩:=Int.eq_ofNat_of_zero_le hz0;have hm:m<256^k:=by omega
   have hm6:(m:Int)<18446744073709551616:=by have h3:256^k<=256^2:=Nat.pow_le_pow_right (by decide) hk;omega
   have hcl:(l++(xs.take j).flatMap fun z=>numB k z.toNat).length=l.length+j*k:=by rw[List.length_append,flat_numB,List.length_take_of_le (by rw[HL.out];omega)]
   have hsn:(xs.take (j+1)).flatMap (fun z=>numB k z.toNat)=(xs.take j).flatMap (fun z=>numB k z.toNat)++numB k m:=by rw[List.take_add_one,hz,List.flatMap_append];simp
   have CX:=hid (CN wr F1 _ hW.out (by omega) m hm);replace hcl:=hid hcl;replace hsn:=hid hsn;replace hfit:=hid hfit;replace hl:=hid hl;clear hm hz1 hz hz0;go_wp2_with fail;refine CX.mono ?_;rintro e w1 ⟨ok,F2,hok,rfl,hw1,hs1⟩;replace hs1:=hid hs1;replace hok:=hid hok;obtain⟨q,hq⟩:=gen_of ((if ok then 0 else 3):Int);rw[hq];cases ok with
   |true=>
    rw[if_pos rfl]at hw1;replace hw1:=hid hw1;obtain rfl:0=q:=hq;go_wp2_with (go_at_call 19;refine(CM _ _ _).mono ?_;rintro e w2 ⟨rfl,rfl⟩)
    have h8:=hok.symm;unfold fits at h8;rw[decide_eq_true_eq,numB_len,hcl.out]at h8;refine⟨⟨j+1,F2,by go_num,by omega,by have h6:=hfit.out;rw[Nat.add_mul];omega,?_,hS.out.trans hs1.out⟩,by simp[intOf];omega⟩;rw[hsn.out,<-List.append_assoc];exact hw1.out
   |false=>obtain rfl:3=q:=hq;clear hw1;go_wp2_with fail;refine(CM _ _ _).mono ?_;rintro e w2 ⟨rfl,rfl⟩;have h8:=hok.symm;unfold fits at h8;rw[decide_eq_false_iff_not,numB_len,hcl.out]at h8;refine⟨rfl,F2,hS.out.trans hs1.out,.inr ⟨?_,rfl⟩⟩;unfold fits;rw[decide_eq_false_iff_not,flat_numB,HL.out];have h9:(j+1)*k<=n*k:=Nat.mul_le_mul_right _ (by omega);rw[Nat.add_mul]at h9;omega
  obtain rfl:j=n:=by omega
  rw[List.take_of_length_le (by rw[HL.out];exact Nat.le_refl _)]at hW;go_wp2
  go_end0
  refine⟨F1,hS.out,.inl ⟨?_,rfl,hW.out⟩⟩;unfold fits;rw[decide_eq_true_eq,flat_numB,HL.out];exact hfit
end
end Go.Proofs.YtkghejaimhoboaaGreatDoor
