/- Parts of the proof of ScriptRaws. -/
import Derived.Test.YtkghejaimhoboaaGreatDoorPr01
import Derived.IntWalk
import Derived.Laws.AppendOwnNone
import Derived.Laws.IdiomStrings
set_option linter.unusedSimpArgs false
set_option linter.unusedVariables false
set_option maxRecDepth 100000
set_option maxHeartbeats 8000000
namespace Go.Proofs.YtkghejaimhoboaaGreatDoor
open Go.RowKit Go.Shelf Go.Proofs.Tryz
theorem utf_may(r:Int)(w:World):
  Calls prog 352 #[.int .i32 r] w fun e w'=>e=.returned (.bool (mayR r))/\w=w':=by
 unfold mayR;by_cases h1:0<=r
 ·by_cases h2:r<=1114111
  ·by_cases h3:r<55296
   ·go_enter func352,ntmps352;go_wp2;go_ret
    (simp[h1,h2,h3];try (intros;omega))
   go_enter func352,ntmps352;go_wp2;go_ret
   (simp[h1,h2,h3];try (intros;omega))
  go_enter func352,ntmps352;go_wp2;go_ret
  (simp[h1,h2];try (intros;omega))
 go_enter func352,ntmps352;go_wp2;go_ret
 (simp[h1];try (intros;omega))
theorem utf_classes(w:World):
  Calls prog 351 #[] w fun e w'=>e=.returned (.agg #[.int .i32 0,.int .u8 0,.int .i32 128,.int .u8 0,.int .i32 2048,.int .u8 192,.int .i32 65536,.int .u8 224,.int .i32 1114112,.int .u8 240])/\w.alloc (.cells #[.int .i32 0,.int .u8 0,.int .i32 128,.int .u8 0,.int .i32 2048,.int .u8 192,.int .i32 65536,.int .u8 224,.int .i32 1114112,.int .u8 240] 395)=w':=by
 go_enter func351,ntmps351;go_wp2;exact bodyPost_ret (v:=.agg #[.int .i32 0,.int .u8 0,.int .i32 128,.int .u8 0,.int .i32 2048,.int .u8 192,.int .i32 65536,.int .u8 224,.int .i32 1114112,.int .u8 240]) (by simp[results,results351,go_sem]) rfl ⟨rfl,rfl⟩
def belows:List Int:=[0,128,2048,65536,1114112]
theorem indexFunc_class(g:Nat)(lb:Array Value)(p:Int->Bool)(B:Nat)(w:World)(hB:w.heap[B]?=some (.cells #[.int .i32 0,.int .u8 0,.int .i32 128,.int .u8 0,.int .i32 2048,.int .u8 192,.int .i32 65536,.int .u8 224,.int .i32 1114112,.int .u8 240] 395 (0,0)))
 (eg:∀args w,(callFunc g args).run prog w=.ok (.enter g args) w) (hg:∀(b l:Int)(W:World),Below w.heap.size w W->Calls prog g (#[.agg #[.int .i32 b,.int .u8 l]]++lb) W fun e w'=>e=.returned (.bool (p b))/\Below W.heap.size W w'):
  Calls prog 364 #[.slice (some ⟨B,0,none⟩) 5 5,.func (.func g) #[] lb] w fun e w'=>e=.returned (.int .i64 (idxOf p belows))/\Below w.heap.size w w':=by
 have HG:=hid hg;clear hg;have HB:=hid hB;clear hB;go_enter func364,ntmps364;go_wp2;go_loopw [4,5,8] (fun _ _ i wr=>∃k:Nat,k<=5/\i=.int .i64 k/\Hid (∀j,j<k->p (belows[j]?.getD 0)=false)/\Below w.heap.size w wr) (fun _ _ i _=>5-(intOf i).toNat)
 case atStart=>exact⟨0,Nat.zero_le _,rfl,fun j hj=>absurd hj (Nat.not_lt_zero _),Below.refl _ _⟩
 case round=>
  obtain⟨k,hk,rfl,hj,hbel⟩:=hrel;have hBr:wr.heap[B]?=some (.cells #[.int .i32 0,.int .u8 0,.int .i32 128,.int .u8 0,.int .i32 2048,.int .u8 192,.int .i32 65536,.int .u8 224,.int .i32 1114112,.int .u8 240] 395 (0,0)):=(hbel.block B (Array.getElem?_eq_some_iff.1 HB.out).1).trans HB.out;have step:∀j,wr.cell? ⟨B,j,none⟩=(#[.int .i32 0,.int .u8 0,.int .i32 128,.int .u8 0,.int .i32 2048,.int .u8 192,.int .i32 65536,.int .u8 224,.int .i32 1114112,.int .u8 240]:Array Value)[j]?:=fun j=>by simp[World.cell?,hBr]
  have c0:=step 0;have c1:=step 1;have c2:=step 2;have c3:=step 3;have c4:=step 4;have c5:=step 5;have c6:=step 6;have c7:=step 7;have c8:=step 8;have c9:=step 9;clear step hBr;simp only[List.getElem?_toArray,List.getElem?_cons_zero,List.getElem?_cons_succ]at c0 c1 c2 c3 c4 c5 c6 c7 c8 c9;rcases(show k=0\/k=1\/k=2\/k=3\/k=4\/k=5 by omega)with rfl | rfl | rfl | rfl | rfl | rfl
  ·go_wp2_with fail
   refine(HG _ _ _ hbel).mono ?_;rintro e w1 ⟨rfl,hb1⟩;have hb2:=hbel.trans (hb1.mono hbel.size);cases hp:p 0
   ·go_wp2;go_roundw
    case rel=>
     refine⟨1,by omega,by go_num,fun j hj'=>?_,hb2⟩;by_cases he:j=0
     ·subst he;exact hp
     exact hj.out j (by omega)
    case measure=>simp[intOf]
   go_wp2;go_ret;refine⟨?_,hb2⟩;have hi:=idxOf_at p belows 0 (by decide) (fun j hj'=>by have h1:=hj.out j hj';rwa [List.getElem?_eq_getElem (by have:belows.length=5:=rfl;omega)]at h1) hp;rw[hi];rfl
  ·go_wp2_with fail
   refine(HG _ _ _ hbel).mono ?_;rintro e w1 ⟨rfl,hb1⟩;have hb2:=hbel.trans (hb1.mono hbel.size);cases hp:p 128
   ·go_wp2;go_roundw
    case rel=>
     refine⟨2,by omega,by go_num,fun j hj'=>?_,hb2⟩;by_cases he:j=1
     ·subst he;exact hp
     exact hj.out j (by omega)
    case measure=>simp[intOf]
   go_wp2;go_ret;refine⟨?_,hb2⟩;have hi:=idxOf_at p belows 1 (by decide) (fun j hj'=>by have h1:=hj.out j hj';rwa [List.getElem?_eq_getElem (by have:belows.length=5:=rfl;omega)]at h1) hp;rw[hi];rfl
  ·go_wp2_with fail
   refine(HG _ _ _ hbel).mono ?_;rintro e w1 ⟨rfl,hb1⟩;have hb2:=hbel.trans (hb1.mono hbel.size);cases hp:p 2048
   ·go_wp2;go_roundw
    case rel=>
     refine⟨3,by omega,by go_num,fun j hj'=>?_,hb2⟩;by_cases he:j=2
     ·subst he;exact hp
     exact hj.out j (by omega)
    case measure=>simp[intOf]
   go_wp2;go_ret;refine⟨?_,hb2⟩;have hi:=idxOf_at p belows 2 (by decide) (fun j hj'=>by have h1:=hj.out j hj';rwa [List.getElem?_eq_getElem (by have:belows.length=5:=rfl;omega)]at h1) hp;rw[hi];rfl
  ·go_wp2_with fail
   refine(HG _ _ _ hbel).mono ?_;rintro e w1 ⟨rfl,hb1⟩;have hb2:=hbel.trans (hb1.mono hbel.size);cases hp:p 65536
   ·go_wp2;go_roundw
    case rel=>
     refine⟨4,by omega,by go_num,fun j hj'=>?_,hb2⟩;by_cases he:j=3
     ·subst he;exact hp
     exact hj.out j (by omega)
    case measure=>simp[intOf]
   go_wp2;go_ret;refine⟨?_,hb2⟩;have hi:=idxOf_at p belows 3 (by decide) (fun j hj'=>by have h1:=hj.out j hj';rwa [List.getElem?_eq_getElem (by have:belows.length=5:=rfl;omega)]at h1) hp;rw[hi];rfl
  ·go_wp2_with fail
   refine(HG _ _ _ hbel).mono ?_;rintro e w1 ⟨rfl,hb1⟩;have hb2:=hbel.trans (hb1.mono hbel.size);cases hp:p 1114112
   ·go_wp2;go_roundw
    case rel=>
     refine⟨5,by omega,by go_num,fun j hj'=>?_,hb2⟩;by_cases he:j=4
     ·subst he;exact hp
     exact hj.out j (by omega)
    case measure=>simp[intOf]
   go_wp2;go_ret;refine⟨?_,hb2⟩;have hi:=idxOf_at p belows 4 (by decide) (fun j hj'=>by have h1:=hj.out j hj';rwa [List.getElem?_eq_getElem (by have:belows.length=5:=rfl;omega)]at h1) hp;rw[hi];rfl
  go_wp2;go_ret;refine⟨?_,hbel⟩;rw[idxOf_none p belows (fun x hx=>by
   obtain⟨j,hj',rfl⟩:=List.getElem_of_mem hx;have h1:=hj.out j (by have:belows.length=5:=rfl;omega)
   rwa [List.getElem?_eq_getElem hj']at h1)]
  rfl
theorem utf_long1(b l:Int)(m:Int)(B:Nat)(w:World)(hc:w.cell? ⟨B,0,none⟩=some (.int .i32 m)):
  Calls prog 365 #[.agg #[.int .i32 b,.int .u8 l],.pointer (some ⟨B,0,none⟩)] w fun e w'=>e=.returned (.bool (decide (m<b)))/\Below w.heap.size w w':=by
 have hc2:=cell_alloc hc (.cells #[.int .i32 b,.int .u8 l] 394);go_enter func365,ntmps365;go_wp2;go_ret;exact⟨rfl,bel_refl.alloc nat_le_rfl _⟩
theorem utf_long(m:Nat)(w:World)(hm:m<=1114111):
  Calls prog 362 #[.int .i32 m] w fun e w'=>e=.returned (.int .i64 (lenR m))/\Below w.heap.size w w':=by
 have hi:idxOf (fun b=>decide ((m:Int)<b)) belows=lenR m:=by
  unfold lenR;split
  ·
   refine idxOf_at _ belows 1 (by decide) (fun j hj=>?_) (decide_eq_true (by show(m:Int)<128;omega));rcases(show j=0 by omega)with rfl;exact decide_eq_false (by show¬(m:Int)<0;omega)
  split
  ·
   refine idxOf_at _ belows 2 (by decide) (fun j hj=>?_) (decide_eq_true (by show(m:Int)<2048;omega));rcases(show j=0\/j=1 by omega)with rfl | rfl
   ·exact decide_eq_false (by show¬(m:Int)<0;omega)
   exact decide_eq_false (by show¬(m:Int)<128;omega)
  split
  ·
   refine idxOf_at _ belows 3 (by decide) (fun j hj=>?_) (decide_eq_true (by show(m:Int)<65536;omega));rcases(show j=0\/j=1\/j=2 by omega)with rfl | rfl | rfl
   ·exact decide_eq_false (by show¬(m:Int)<0;omega)
   ·exact decide_eq_false (by show¬(m:Int)<128;omega)
   exact decide_eq_false (by show¬(m:Int)<2048;omega)
  
  refine idxOf_at _ belows 4 (by decide) (fun j hj=>?_) (decide_eq_true (by show(m:Int)<1114112;omega));rcases(show j=0\/j=1\/j=2\/j=3 by omega)with rfl | rfl | rfl | rfl
  ·exact decide_eq_false (by show¬(m:Int)<0;omega)
  ·exact decide_eq_false (by show¬(m:Int)<128;omega)
  ·exact decide_eq_false (by show¬(m:Int)<2048;omega)
  exact decide_eq_false (by show¬(m:Int)<65536;omega)
 have HI:=hid hi;clear hi;go_enter func362,ntmps362;go_wp2_with fail
 refine(utf_classes _).mono ?_;rintro e w1 ⟨rfl,rfl⟩;go_wp2_with fail
 have hb0:=Boxed.new w 21 (.int .i32 m);have hb1:=(hb0.alloc (.cells #[.int .i32 0,.int .u8 0,.int .i32 128,.int .u8 0,.int .i32 2048,.int .u8 192,.int .i32 65536,.int .u8 224,.int .i32 1114112,.int .u8 240] 395)).alloc (.cells #[.int .i32 0,.int .u8 0,.int .i32 128,.int .u8 0,.int .i32 2048,.int .u8 192,.int .i32 65536,.int .u8 224,.int .i32 1114112,.int .u8 240] 395);have hB:=World.alloc_heap_new ((w.alloc (.cells #[.int .i32 m] 21)).alloc (.cells #[.int .i32 0,.int .u8 0,.int .i32 128,.int .u8 0,.int .i32 2048,.int .u8 192,.int .i32 65536,.int .u8 224,.int .i32 1114112,.int .u8 240] 395)) (.cells #[.int .i32 0,.int .u8 0,.int .i32 128,.int .u8 0,.int .i32 2048,.int .u8 192,.int .i32 65536,.int .u8 224,.int .i32 1114112,.int .u8 240] 395);simp only[World.size_alloc]at hB;refine(indexFunc_class 365 #[.pointer (some ⟨w.heap.size,0,none⟩)] (fun b=>decide ((m:Int)<b)) _ _ hB (enters_of func365 (by kernel_rfl) rfl) (fun b l W hW=>utf_long1 b l m _ W (boxed_below hb1 hW).cell)).mono ?_;rintro e w' ⟨rfl,hb⟩;rw[HI.out];go_wp2;go_ret;exact⟨rfl,(((((Below.refl _ w).alloc nat_le_rfl _).alloc (by simp) _).alloc (by simp;omega) _).trans (hb.mono (by simp;omega)))⟩
def takenL:List UInt8->Nat
 | []=>0
 | x::l=>x.toNat%128+128*takenL l
theorem takenL_snoc(l:List UInt8)(x:UInt8):takenL (l++[x])=takenL l+128^l.length*(x.toNat%128):=by
 induction l with
 | nil=>simp[takenL]
 |cons y l ih=>simp only[List.cons_append,takenL,ih,List.length_cons,Nat.pow_succ',Nat.mul_add,Nat.mul_assoc];omega
theorem takenL_lt(l:List UInt8):takenL l<128^l.length:=by
 induction l with
 | nil=>simp[takenL]
 |cons y l ih=>simp only[takenL,List.length_cons,Nat.pow_succ'];have:=Nat.mod_lt y.toNat (show 128>0 by omega);omega
theorem wraps_i64(n:Int)(h₀:0<=n)(h₁:n<2^62):IntKind.i64.wrap n=n:=by rw[IntKind.wrap_i64];omega
theorem u8_and127(x:Int)(h₀:0<=x)(h₁:x<256):bits .and .u8 x 127=x%128:=bits_mask .u8 8 (by decide) wraps_u8 7 (by decide) x h₀ h₁
theorem i64_or_low(i t y:Nat)(ht:t<2^i)(hy:2^i*y<2^62)(hi:i<=62):bits .or .i64 (t:Int) ((2^i*y:Nat):Int)=((t+2^i*y:Nat):Int):=by have ht':t<2^62:=Nat.lt_of_lt_of_le ht (Nat.pow_le_pow_right (by decide) hi);rw[(bits_nat .i64 62 (by decide) wraps_i64 t _ ht' hy).2,Nat.or_comm,<-Nat.two_pow_add_eq_or_of_lt ht y,Nat.add_comm]
theorem taken_step(t k:Nat)(x:UInt8)(ht:t<128^k)(hk:k<4):
  bits BinOp.or IntKind.i64 (t:Int) (wrap64 (wrap64 (bits BinOp.and IntKind.u8 (x.toNat:Int) 127)*2^(7*k)))=((t+128^k*(x.toNat%128):Nat):Int):=by
 have hx:x.toNat<256:=x.toNat_lt;have h128:∀j,128^j=2^(7*j):=fun j=>by rw[Nat.pow_mul]
 rw[u8_and127 _ (by omega) (by omega)];have hm:x.toNat%128<128:=Nat.mod_lt _ (by decide);have h2:2^(7*k)*(x.toNat%128)<2^28:=by have h1:2^(7*k)<=2^21:=Nat.pow_le_pow_right (by decide) (by omega);have h3:=Nat.mul_lt_mul_of_le_of_lt h1 hm (Nat.two_pow_pos _);exact h3
 have e1:wrap64 ((x.toNat:Int)%128)=((x.toNat%128:Nat):Int):=by unfold wrap64;omega
 rw[e1];have e2:(((x.toNat%128:Nat):Int)*2^(7*k))=((2^(7*k)*(x.toNat%128):Nat):Int):=by rw[Int.natCast_mul,Int.mul_comm];simp
 rw[e2];have e3:wrap64 ((2^(7*k)*(x.toNat%128):Nat):Int)=((2^(7*k)*(x.toNat%128):Nat):Int):=by unfold wrap64;omega
 rw[e3,h128,i64_or_low (7*k) t _ (by rw[<-h128];exact ht) (Nat.lt_of_lt_of_le h2 (by decide)) (by omega)]
theorem len_taken(a:Option Addr)(n cap:Nat)(l:List UInt8)(w:World)(h:RowAt w a n cap (bs l))(hn:n<=4):
  Calls prog 164 #[.slice a n cap] w fun e w'=>e=.returned (.int .i64 (takenL l))/\w=w':=by
 have hlen:l.length=n:=by have:=h.len;rwa [bs_len]at this
 have HL:=hid hlen;clear hlen;go_enter func164,ntmps164;go_wp2;go_loop [3,9] (fun t i=>∃k:Nat,k<=n/\i=.int .i64 k/\t=.int .i64 (takenL (l.take k))) (fun _ i=>n-(intOf i).toNat)
 case atStart=>exact⟨0,Nat.zero_le _,rfl,rfl⟩
 case round=>
  obtain⟨k,hk,rfl,rfl⟩:=hrel;by_cases hlt:k<n
  ·obtain⟨b,off,ha,hcell⟩:=h.byte hlt;subst ha;clear h;obtain⟨x,hX⟩:∃x,x=l[k]?.getD 0:=⟨_,rfl⟩;rw[<-hX]at hcell;have HX:=hid hX;clear hX;generalize hT:takenL (l.take k)=t at*
   have HT:=hid hT;clear hT;go_wp2
   go_round
   case rel=>
    refine⟨k+1,by omega,by go_num,?_⟩;have hl:=HL.out;have hlk:(l.take k).length=k:=by simp;omega
    have hlt':=takenL_lt (l.take k);rw[HT.out,hlk]at hlt';rw[taken_step t k x hlt' (by omega),List.take_succ_eq_append_getElem (by omega),takenL_snoc,HT.out,hlk];have h1:=HX.out;rw[List.getElem?_eq_getElem (by omega),Option.getD_some]at h1;rw[h1]
   case measure=>simp[intOf];omega
  obtain rfl:k=n:=by omega
  clear hlt;go_wp2;go_ret;have hl:=HL.out;rw[List.take_of_length_le (by omega)];exact⟨rfl,rfl⟩
def readL(l:List UInt8):Int×Int×Int:=
 let e:=idxOf (fun x:UInt8=>decide (x.toNat<128)) (l.take 4)
 if e<0 then(if 4<=l.length then(0,0,250)else(0,0,0))
 else if sizeL (takenL (l.take (e.toNat+1)))=e.toNat+1 then(takenL (l.take (e.toNat+1)),e+1,0)else(0,0,250)
theorem len_read(a:Option Addr)(n cap:Nat)(l:List UInt8)(w:World)(h:RowAt w a n cap (bs l)):
  Calls prog 96 #[.slice a n cap] w fun e w'=>e=.returned (.tuple #[.int .i64 (readL l).1,.int .i64 (readL l).2.1,.int .i64 (readL l).2.2])/\Below w.heap.size w w':=by
 have hlen:l.length=n:=by have:=h.len;rwa [bs_len]at this
 have hle:=h.le;have hmax:=h.max;unfold maxLen at hmax;have HC:=indexFunc_byte 163 #[] (fun x=>decide (x.toNat<128)) a (min n 4) cap (l.take 4) w (by
  have:=h.take (min n 4) (Nat.min_le_left _ _);rw[bs_take,show l.take (min n 4)=l.take 4 from by
   rcases Nat.le_total n 4 with h1 | h1
   ·rw[Nat.min_eq_left h1,List.take_of_length_le (by omega),List.take_of_length_le (by omega)]
   rw[Nat.min_eq_right h1]]at this
  exact this) (enters_of func163 (by kernel_rfl) rfl) (fun x=>len_read1 x w)
 obtain⟨E,hE⟩:∃E,E=idxOf (fun x:UInt8=>decide (x.toNat<128)) (l.take 4):=⟨_,rfl⟩;have hr:=idxOf_lt (fun x:UInt8=>decide (x.toNat<128)) (l.take 4);rw[<-hE]at HC hr;have hr1:E<n:=by have h1:=hr.1;simp at h1;omega
 have hr2:E<4:=by have h1:=hr.1;simp at h1;omega
 have hr3:=hr.2;clear hr;have hR:readL l=if E<0 then(if 4<=n then(0,0,250)else(0,0,0))else if sizeL (takenL (l.take (E.toNat+1)))=E.toNat+1 then(((takenL (l.take (E.toNat+1)):Nat):Int),E+1,0)else(0,0,250):=by rw[hE,<-hlen];rfl
 have HR:=hid hR;have HE:=hid hE;have HL:=hid hlen;clear hR hE hlen;rcases Int.lt_or_le E 0 with hE0 | hE0
 ·rw[if_pos hE0]at HR;have h4:n<4\/n=4\/4<n:=by omega
  rcases h4 with h4 | rfl | h4
  all_goals
   first | rw[if_pos (show 4<=4 from Nat.le_refl _)]at HR | rw[if_pos (show 4<=n by omega)]at HR | rw[if_neg (show¬4<=n by omega)]at HR
   first | rw[show min 4 4=4 from rfl]at HC | rw[show min n 4=4 from by omega]at HC | rw[show min n 4=n from by omega]at HC
   have HC:=hid HC;go_enter func96,ntmps96;go_wp2_with fail
   refine HC.mono ?_;rintro e w' ⟨rfl,rfl⟩;go_wp2
   go_ret3
   rw[HR.out];exact⟨rfl,Below.refl _ _⟩
 obtain⟨q,rfl⟩:=Int.eq_ofNat_of_zero_le hE0;rw[if_neg (show¬(q:Int)<0 by omega)]at HR;have HT:=hid (len_taken a (q+1) cap (l.take (q+1)) w (by rw[<-bs_take];exact h.take _ (by omega)) (by omega));rw[Int.toNat_natCast]at HR;generalize hz:takenL (l.take (q+1))=z at*
 have HZ:=hid hz;clear hz;have h4:n<4\/n=4\/4<n:=by omega
 rcases h4 with h4 | rfl | h4
 all_goals
  first | rw[show min 4 4=4 from rfl]at HC | rw[show min n 4=4 from by omega]at HC | rw[show min n 4=n from by omega]at HC
  have HC:=hid HC;go_enter func96,ntmps96;go_wp2_with fail
  refine HC.mono ?_;rintro e w' ⟨rfl,rfl⟩;go_wp2_with fail
  refine HT.mono ?_;rintro e w' ⟨rfl,rfl⟩;go_wp2_with fail
  refine(len_size _ _).mono ?_;rintro e w2 ⟨rfl,hb2⟩;by_cases hs:sizeL z=q+1
  ·have hs1:((sizeL (z:Int):Int)==(q:Int)+1)=true:=by simp;omega
   have hs2:((sizeL (z:Int):Int)!=(q:Int)+1)=false:=by simp;omega
   rw[if_pos hs]at HR;go_wp2
   go_ret3
   rw[HR.out];exact⟨rfl,hb2⟩
  have hs1:((sizeL (z:Int):Int)==(q:Int)+1)=false:=by simp;omega
  have hs2:((sizeL (z:Int):Int)!=(q:Int)+1)=true:=by simp;omega
  rw[if_neg hs]at HR;go_wp2
  go_ret3
  rw[HR.out];exact⟨rfl,hb2⟩
section
section
variable {P:Program} {ops:Array Oper} {Q:Exit->Act->World->Prop} {md:Region.Mode}
def CF(facts:List (Nat×Addr×Value))(listed:Array Bool)(w:World):Prop:=∀f∈facts,listed.getD f.1 false=false->w.cell? f.2.1=some f.2.2
def ClosedL(md:Region.Mode)(ops:Array Oper)(listed:Array Bool):Prop:=
 listed.size=ops.size/\∀(j:Nat)(o:Oper),ops[j]?=some o->listed.getD j false=true->∀e∈o.after,Region.binds md e=true->listed.getD e.on false=true
theorem getD_set_self_or{listed:Array Bool}{i j:Nat}(h:(listed.setIfInBounds i true).getD j false=true):j=i\/listed.getD j false=true:=by
 by_cases hij:i=j
 ·exact .inl hij.symm
 rw[getD_set_ne false hij]at h;exact .inr h
theorem ClosedL.step{listed:Array Bool}{i:Nat}(h:ClosedL md ops listed)(hi:i∈Region.ready md ops listed):ClosedL md ops (listed.setIfInBounds i true):=by
 refine⟨by simpa using h.1,fun j o ho hj e he hb=>?_⟩;rcases getD_set_self_or hj with rfl | hj
 ·obtain⟨_,o',ho',hall⟩:=mem_ready.1 hi;rw[ho]at ho';cases ho';exact getD_set_true (hall e he hb)
 exact getD_set_true (h.2 j o ho hj e he hb)
theorem ClosedL.start:ClosedL md ops (Array.replicate ops.size false):=by refine⟨by simp,fun j o ho hj=>?_⟩;have hlt:=(Array.getElem?_eq_some_iff.1 ho).1;simp[hlt]at hj
def waits(md:Region.Mode)(ops:Array Oper)(k i:Nat):Bool:=
 match ops[k]? with
 | none=>true
 | some o=>o.after.any fun e=>Region.binds md e&&e.on==i
theorem CF.cell{facts:List (Nat×Addr×Value)}{listed:Array Bool}{w:World}{i:Nat}(hc:ClosedL md ops listed)(hn:listed.getD i true=false)(h:CF facts listed w)(k:Nat)(p:Addr)(v:Value)
  (hm:(k,p,v)∈facts) (hw:waits md ops k i=true):w.cell? p=some v:=by
 refine h _ hm ?_;dsimp only;unfold waits at hw;cases hk:ops[k]? with
 |none=>have h1:=Array.getElem?_eq_none_iff.1 hk;have h2:listed[k]?=none:=Array.getElem?_eq_none_iff.2 (by rw[hc.1];exact h1);rw[Array.getD_eq_getD_getElem?,h2];rfl
 | some o=>
  rw[hk]at hw;obtain⟨e,he,hb⟩:=Array.any_eq_true'.1 hw;simp only[Bool.and_eq_true,beq_iff_eq]at hb;cases hl:listed.getD k false with
  | false=>rfl
  |true=>
   have h1:=hc.2 k o hk hl e he hb.1;rw[hb.2]at h1;rcases Nat.lt_or_ge i listed.size with h' | h'
   ·simp[h']at hn h1;rw[hn]at h1;cases h1
   simp[Array.getElem?_eq_none h']at h1
def wpAnyL(P:Program)(md:Region.Mode)(ops:Array Oper)(Q:Exit->Act->World->Prop)(facts:List (Nat×Addr×Value)):Nat->Array Bool->Act->World->Prop
 | 0,listed,a,w=>Region.ready md ops listed=[]/\Q .normal a w
 |fuel+1,listed,a,w=>
  (Region.ready md ops listed=[]->Q .normal a w)/\
  ∀i∈Region.ready md ops listed,wpOp P ops Q i (fun a' w'=>CF facts (listed.setIfInBounds i true) w'/\wpAnyL P md ops Q facts fuel (listed.setIfInBounds i true) a' w') a w
theorem CF.set{facts:List (Nat×Addr×Value)}{listed:Array Bool}{w:World}{i:Nat}(hk:∀f∈facts,f.1≠i):CF facts (listed.setIfInBounds i true) w↔CF facts listed w:=by
 constructor
 ·intro h f hf hl;exact h f hf (by rw[getD_set_ne false (Ne.symm (hk f hf))];exact hl)
 intro h f hf hl;exact h f hf (by rw[getD_set_ne false (Ne.symm (hk f hf))]at hl;exact hl)
def AllReadyL(P:Program)(md:Region.Mode)(ops:Array Oper)(Q:Exit->Act->World->Prop)(facts:List (Nat×Addr×Value))(fuel:Nat)(listed:Array Bool)(a:Act)(w:World)(rs:List Nat):Prop:=
 ∀i∈rs,wpOp P ops Q i (fun a' w'=>CF facts (listed.setIfInBounds i true) w'/\wpAnyL P md ops Q facts fuel (listed.setIfInBounds i true) a' w') a w
theorem AllReadyL.nil{facts:List (Nat×Addr×Value)}{fuel:Nat}{listed:Array Bool}{a:Act}{w:World}:AllReadyL P md ops Q facts fuel listed a w []:=fun _ h=>by cases h
theorem AllReadyL.cons{facts:List (Nat×Addr×Value)}{fuel:Nat}{listed:Array Bool}{a:Act}{w:World}{i:Nat}{o:Oper}{rs:List Nat}(ho:ops[i]?=some o)
  (h:∀K':Act->World->Prop,Shut (∀a w,CF facts (listed.setIfInBounds i true) w->(CF facts (listed.setIfInBounds i true) w->wpAnyL P md ops Q facts fuel (listed.setIfInBounds i true) a w)->K' a w)->if Region.wanted o (yielded ops a.tmps)=true then Oper.wp P o a w K' Q else K' (a.put o.dst undef) w)
  (hs:AllReadyL P md ops Q facts fuel listed a w rs):AllReadyL P md ops Q facts fuel listed a w (i::rs):=fun j hj=>by
 rcases List.mem_cons.1 hj with rfl | hj
 ·exact wpOp_step ho (fun K' hK=>h K' (fun a w hS hW=>hK a w ⟨hS,hW hS⟩))
 exact hs j hj
theorem CF.step{facts:List (Nat×Addr×Value)}{listed:Array Bool}{w w':World}{i:Nat}(h:CF facts listed w)(hi:i<listed.size)
  (hc:∀f∈facts,f.1≠i->w.cell? f.2.1=some f.2.2->w'.cell? f.2.1=some f.2.2):CF facts (listed.setIfInBounds i true) w':=fun f hf hl=>by
 by_cases he:f.1=i
 ·rw[he]at hl;simp[hi]at hl
 exact hc f hf he (h f hf (by rwa [getD_set_ne false (Ne.symm he)]at hl))
theorem CF.below{facts:List (Nat×Addr×Value)}{listed:Array Bool}{w w':World}{i:Nat}(h:CF facts listed w)(hi:i<listed.size)(hb:Below w.heap.size w w'):CF facts (listed.setIfInBounds i true) w':=
 h.step hi fun f _ _ hc=>(hb.cell (cell_lt hc)).trans hc
end
/-! What comes behind a region stays out of sight while the region is walked. -/
def onlyN(K:Act->World->Prop):Exit->Act->World->Prop
 | .normal,a,w=>K a w
 | _,_,_=>False
theorem wp_K{P:Program}{c:Code}{Q:Exit->Act->World->Prop}{a:Act}{w:World}(h:∀K:Act->World->Prop,Shut (∀a w,Q .normal a w->K a w)->c.wp P (onlyN K) a w):c.wp P Q a w:=
 wp_mono (h (fun a w=>Q .normal a w) (fun _ _ h=>h)) (fun e a w hq=>by cases e<;>first | exact hq | exact hq.elim)
end
theorem sizeL_nat(z:Nat)(h:z<268435456):sizeL (z:Int)=if z<128 then 1 else if z<16384 then 2 else if z<2097152 then 3 else 4:=by
 have hm:mayL (z:Int)=true:=(mayL_iff _).2 ⟨by omega,by omega⟩;simp only[sizeL,hm];rw[if_neg (by decide)];by_cases h1:z<128
 ·rw[if_pos (by omega),if_pos h1]
 rw[if_neg (by omega),if_neg h1];by_cases h2:z<16384
 ·rw[if_pos (by omega),if_pos h2]
 rw[if_neg (by omega),if_neg h2];by_cases h3:z<2097152
 ·rw[if_pos (by omega),if_pos h3]
 rw[if_neg (by omega),if_neg h3]
theorem sizeL_last(t k x:Nat)(ht:t<128^k)(hk:k<4)(hx:x<128):(sizeL ((t+128^k*x:Nat):Int)=k+1)↔(x≠0\/k=0):=by
 have hk':k=0\/k=1\/k=2\/k=3:=by omega
 rcases hk' with rfl | rfl | rfl | rfl
 all_goals
  simp only[Nat.reducePow,Nat.pow_zero]at ht ⊢;rw[sizeL_nat _ (by omega)]
  repeat' split
  all_goals (constructor<;>intro _)
  all_goals first | omega | exact Or.inr trivial
section
attribute [local go_sem] Oper.semAt_some
def errL(most:Int)(r:List UInt8):Int:=if (readL r).2.2≠0 then(readL r).2.2 else if most<(readL r).1 then 3 else 0
def fullL(r:List UInt8):Bool:=decide ((readL r).2.1≠0)&&decide ((readL r).1<=r.length-(readL r).2.1)
def cutL(r:List UInt8):Nat:=(readL r).2.1.toNat+(readL r).1.toNat
def partL(r:List UInt8):List UInt8:=(r.take (cutL r)).drop (readL r).2.1.toNat
def ChainL(most:Int):List UInt8->List (List UInt8)->List UInt8->Prop
 | r,[],r'=>r=r'
 | r,p::ps,r'=>errL most r=0/\fullL r=true/\p=partL r/\ChainL most (r.drop (cutL r)) ps r'
theorem readL_facts(r:List UInt8):0<=(readL r).1/\(readL r).1<=268435455/\0<=(readL r).2.1/\(readL r).2.1<=r.length/\(readL r).2.1<=4/\0<=(readL r).2.2/\(readL r).2.2<=250:=by
 unfold readL;have h1:=idxOf_lt (fun x:UInt8=>decide (x.toNat<128)) (r.take 4);simp only[List.length_take]at h1;generalize idxOf (fun x:UInt8=>decide (x.toNat<128)) (r.take 4)=e at*
 dsimp only;split
 ·split<;>simp
 split
 ·rename_i h2 h3;have h4:=takenL_lt (r.take (e.toNat+1));have h5:(128:Nat)^(r.take (e.toNat+1)).length<=128^4:=Nat.pow_le_pow_right (by decide) (by simp;omega);simp;omega
 simp
end
section
abbrev Fact:=Nat×(World->Prop)
section
variable {P:Program} {ops:Array Oper}
def FR(facts:List Fact)(listed:Array Bool)(w:World):Prop:=∀f∈facts,listed.getD f.1 false=false->f.2 w
theorem FR.get{md:Region.Mode}{facts:List Fact}{listed:Array Bool}{w:World}{i:Nat}(hc:ClosedL md ops listed)(hn:listed.getD i true=false)(h:FR facts listed w)(k:Nat)(p:World->Prop)
  (hm:(k,p)∈facts) (hw:waits md ops k i=true):p w:=by
 refine h _ hm ?_;dsimp only;unfold waits at hw;cases hk:ops[k]? with
 |none=>have h1:=Array.getElem?_eq_none_iff.1 hk;have h2:listed[k]?=none:=Array.getElem?_eq_none_iff.2 (by rw[hc.1];exact h1);rw[Array.getD_eq_getD_getElem?,h2];rfl
 | some o=>
  rw[hk]at hw;obtain⟨e,he,hb⟩:=Array.any_eq_true'.1 hw;simp only[Bool.and_eq_true,beq_iff_eq]at hb;cases hl:listed.getD k false with
  | false=>rfl
  |true=>
   have h1:=hc.2 k o hk hl e he hb.1;rw[hb.2]at h1;rcases Nat.lt_or_ge i listed.size with h' | h'
   ·simp[h']at hn h1;rw[hn]at h1;cases h1
   simp[Array.getElem?_eq_none h']at h1
def wpAnyR(P:Program)(md:Region.Mode)(ops:Array Oper)(Q:Exit->Act->World->Prop)(facts:List Fact):Nat->Array Bool->Act->World->Prop
 | 0,listed,a,w=>Region.ready md ops listed=[]/\Q .normal a w
 |fuel+1,listed,a,w=>
  (Region.ready md ops listed=[]->Q .normal a w)/\
  ∀i∈Region.ready md ops listed,wpOp P ops Q i (fun a' w'=>FR facts (listed.setIfInBounds i true) w'/\wpAnyR P md ops Q facts fuel (listed.setIfInBounds i true) a' w') a w
variable {Q:Exit->Act->World->Prop} {md:Region.Mode}
theorem wpAny_of_R{facts:List Fact}:∀(fuel:Nat)(listed:Array Bool)(a:Act)(w:World),wpAnyR P md ops Q facts fuel listed a w->wpAny P md ops Q fuel listed a w
 | 0,_,_,_,h=>h
 | fuel+1,_,_,_,h=>⟨h.1,fun i hi=>wpOp_mono (fun a' w' h'=>wpAny_of_R fuel _ a' w' h'.2) (h.2 i hi)⟩
def upR(md:Region.Mode)(ops:Array Oper)(facts:List Fact)(i:Nat)(w:World):Prop:=∃listed,ClosedL md ops listed/\listed.getD i true=false/\FR facts listed w
theorem upR.get{facts:List Fact}{i:Nat}{w:World}(h:upR md ops facts i w)(k:Nat)(p:World->Prop)(hm:(k,p)∈facts)(hw:waits md ops k i=true):p w:=by obtain⟨listed,h1,h2,h3⟩:=h;exact h3.get h1 h2 k p hm hw
theorem FR.set{facts:List Fact}{listed:Array Bool}{w:World}{i:Nat}(hk:∀f∈facts,f.1≠i):FR facts (listed.setIfInBounds i true) w↔FR facts listed w:=by
 constructor
 ·intro h f hf hl;exact h f hf (by rw[getD_set_ne false (Ne.symm (hk f hf))];exact hl)
 intro h f hf hl;exact h f hf (by rw[getD_set_ne false (Ne.symm (hk f hf))]at hl;exact hl)
theorem wpAnyR_first{facts:List Fact}{i:Nat}{oi:Oper}{v:Value}(hi:ops[i]?=some oi)(hsel:∀(j:Nat)(o:Oper) cs b,ops[j]?=some o->o.op≠ .select cs b)
  (hQ:∀c a w,Q (.panic c) (a.put oi.dst v) w->Q (.panic c) a w) (hk:∀f∈facts,f.1≠i):
  ∀(fuel:Nat)(listed:Array Bool)(a:Act)(w:World),
   (∀j oj,ops[j]?=some oj->j≠i->listed.getD j true=false->(∀e∈oj.after,Region.binds md e=true->e.on≠i)->oi.apart ops oj=true)->
   i∈Region.ready md ops listed->YieldsIf P ops (upR md ops facts i) oi v a->ClosedL md ops listed->FR facts listed w->
   wpAnyR P md ops Q facts fuel (listed.setIfInBounds i true) (a.put oi.dst v) w->wpAnyR P md ops Q facts (fuel+1) listed a w:=by
 intro fuel;induction fuel with
 | zero=>
  intro listed a w _ hr hy hcl hS H;have hn:=(mem_ready.1 hr).1;refine⟨fun h=>(by rw[h]at hr;cases hr),fun j hj=>?_⟩;by_cases hji:j=i
  ·subst hji;exact hy.wpOp hi ⟨listed,hcl,hn,hS⟩ ⟨(FR.set hk).2 hS,H⟩
  have:=ready_mono hj hji;rw[H.1]at this;cases this
 | succ fuel ih=>
  intro listed a w hfree hr hy hcl hS H;have hn:=(mem_ready.1 hr).1;refine⟨fun h=>(by rw[h]at hr;cases hr),fun j hj=>?_⟩;by_cases hji:j=i
  ·subst hji;exact hy.wpOp hi ⟨listed,hcl,hn,hS⟩ ⟨(FR.set hk).2 hS,H⟩
  have h1:=H.2 j (ready_mono hj hji);obtain⟨hjun,oj,hoj,hall⟩:=mem_ready.1 hj;have hnot:∀e∈oj.after,Region.binds md e=true->e.on≠i:=fun e he hb heq=>by
   have h1:=hall e he hb;have h0:=hn;rw[heq]at h1;rcases Nat.lt_or_ge i listed.size with h' | h'
   ·simp[h']at h0 h1;rw[h0]at h1;cases h1
   simp[Array.getElem?_eq_none h']at h1
  have h2:=wpOp_putIf hoj (hfree j oj hoj hji hjun hnot) (fun cs b=>hsel i oi cs b hi) (fun cs b=>hsel j oj cs b hoj) hQ hy h1;have hfree':∀k ok,ops[k]?=some ok->k≠i->(listed.setIfInBounds j true).getD k true=false->
    (∀e∈ok.after,Region.binds md e=true->e.on≠i)->oi.apart ops ok=true:=fun k ok hk hki hun hno=>by
   refine hfree k ok hk hki ?_ hno;by_cases hjk:j=k
   ·subst hjk;exact hjun
   rw[getD_set_ne true hjk]at hun;exact hun
  refine wpOp_mono (fun a' w' h3=>?_) h2;have h4:=h3.2.1;rw[Array.setIfInBounds_comm _ _ (Ne.symm hji),FR.set hk]at h4;refine⟨h4,ih (listed.setIfInBounds j true) a' w' hfree' (ready_mono hr (Ne.symm hji)) h3.1 (hcl.step hj) h4 ?_⟩;rw[Array.setIfInBounds_comm _ _ hji];exact h3.2.2
/-! ### The state of a walk:what has come up -/
def listedOf(ops:Array Oper)(taken:List Nat):Array Bool:=taken.foldr (fun i l=>l.setIfInBounds i true) (Array.replicate ops.size false)
theorem listedOf_get(taken:List Nat)(k:Nat)(hk:∀i∈taken,i<ops.size):(listedOf ops taken).getD k false=taken.contains k:=by
 induction taken with
 |nil=>
  simp only[listedOf,List.foldr_nil,Array.getD_eq_getD_getElem?,List.contains_nil];rcases Nat.lt_or_ge k ops.size with h | h
  ·simp[h]
  rw[Array.getElem?_eq_none (by simpa using h)];rfl
 | cons i t ih=>
  have h1:=ih (fun j hj=>hk j (List.mem_cons_of_mem _ hj));have h2:(listedOf ops t).size=ops.size:=by
   clear ih h1 hk;induction t with
   | nil=>simp[listedOf]
   | cons j t ih=>simp only[listedOf,List.foldr_cons,Array.size_setIfInBounds]at ih ⊢;exact ih
  show((listedOf ops t).setIfInBounds i true).getD k false=_;by_cases hik:i=k
  ·subst hik;have h3:=hk i (List.mem_cons_self ..);simp[Array.getD_eq_getD_getElem?,h2,h3]
  rw[getD_set_ne false hik,h1];simp[Ne.symm hik]
def HoldR(taken:List Nat):List Fact->World->Prop
 | [],_=>True
 | f::fs,w=>(taken.contains f.1=false->f.2 w)/\HoldR taken fs w
theorem HoldR.mem{taken:List Nat}{facts:List Fact}{w:World}(h:HoldR taken facts w):∀f∈facts,taken.contains f.1=false->f.2 w:=by
 induction facts with
 | nil=>intro f hf;cases hf
 |cons g fs ih=>
  intro f hf hc;rcases List.mem_cons.1 hf with rfl | hf
  ·exact h.1 hc
  exact ih h.2 f hf hc
def PutFree(Q:Exit->Act->World->Prop):Prop:=∀c (a:Act) (d:Option Tmp) (v:Value) w,Q (.panic c) (a.put d v) w->Q (.panic c) a w
def PutOn(ops:Array Oper)(Q:Exit->Act->World->Prop):Prop:=∀(i:Nat)(oi:Oper),ops[i]?=some oi->∀(c:List PanicEntry)(a:Act)(v:Value) w,Q (.panic c) (a.put oi.dst v) w->Q (.panic c) a w
theorem PutFree.on{Q:Exit->Act->World->Prop}(h:PutFree Q)(ops:Array Oper):PutOn ops Q:=fun _ _ _ c a v w=>h c a _ v w
theorem onlyN_free(K:Act->World->Prop)(ops:Array Oper):PutOn ops (onlyN K):=fun _ _ _ _ _ _ _ h=>h
def atR(P:Program)(ops:Array Oper)(KQ:Exit->Act->World->Prop)(facts:List Fact)(taken:List Nat)(a:Act)(w:World):Prop:=
 (∀i∈taken,i<ops.size)->ClosedL .any ops (listedOf ops taken)->FR facts (listedOf ops taken) w->PutOn ops KQ->wpAnyR P .any ops KQ facts (ops.size-taken.length) (listedOf ops taken) a w
def takeB(ops:Array Oper)(fk:List Nat)(taken:List Nat)(i:Nat):Bool:=
 Region.noSelect ops&&Region.free .any ops (listedOf ops taken) i&&(Region.ready .any ops (listedOf ops taken)).contains i&&decide (taken.length<ops.size)&& !fk.contains i
def plainOp:Op->Bool
 | .move _ | .assign _ | .pick .. | .load .. | .binOp .. | .unOp .. | .convert .. | .slice .. | .fieldAddr .. | .field .. | .indexAddr .. | .index .. | .lookup .. | .extract .. | .typeAssert .. | .build .. | .makeInterface .. =>true
 | .call {callee:=.builtin .len, .. } | .call {callee:=.builtin .cap, .. } | .call {callee:=.builtin .min, .. } | .call {callee:=.builtin .max, .. }=>true
 | _=>false
theorem run_v{s:Sem Value}{w w':World}{n:Next}(h:(do pure (Next.value (<-s)):Sem Next).run P w=.ok n w'):∃v,n=.value v:=by
 rw[Sem.run_bind]at h;cases hs:s.run P w with
 | ok x w1=>rw[hs]at h;simp at h;exact⟨x,h.1.symm⟩
 | halt x w1=>rw[hs]at h;simp at h
theorem plain_value{o:Oper}(hp:plainOp o.op=true)(ev:Operand->Value)(w:World)(n:Next)(w':World)(h:(execOp ev o).run P w=.ok n w'):∃v,n=.value v:=by
 obtain⟨dst,op,type,pos,after,guard⟩:=o;dsimp only at hp;unfold execOp at h;cases op<;>dsimp only at h hp<;>try first | exact run_v h | (exfalso;revert hp;exact Bool.false_ne_true)
 case move=>simp at h;exact⟨_,h.1.symm⟩
 case assign=>simp at h;exact⟨_,h.1.symm⟩
 case pick c x y=>
  rw[Sem.run_bind]at h;cases hs:(asBool (ev c)).run P w with
  | ok x w1=>rw[hs]at h;simp at h;exact⟨_,h.1.symm⟩
  | halt x w1=>rw[hs]at h;simp at h
 case call c=>
  obtain⟨callee,args,argTypes⟩:=c;cases callee with
  | value f=>exact absurd hp (by simp[plainOp])
  | invoke r m=>exact absurd hp (by simp[plainOp])
  |builtin b=>simp only[resolve,Sem.run_bind,Sem.run_pure,Result.andThen_ok,invoke]at h;cases b<;>first | exact run_v h | exact absurd hp (by simp[plainOp])
variable {KQ:Exit->Act->World->Prop} {facts:List Fact} {taken:List Nat} {a:Act} {w:World}
theorem readyR{oi:Oper}(i:Nat)(hi:ops[i]?=some oi)(hB:takeB ops (facts.map (·.1)) taken i=true)(v:Value)(hy:YieldsIf P ops (upR .any ops facts i) oi v a)
  (h:atR P ops KQ facts (i::taken) (a.put oi.dst v) w):atR P ops KQ facts taken a w:=by
 intro ht hcl hfr hpf;simp only[takeB,Bool.and_eq_true,decide_eq_true_eq,Bool.not_eq_true']at hB;obtain⟨⟨⟨⟨b1,b2⟩,b3⟩,b4⟩,b5⟩:=hB;have hr:i∈Region.ready .any ops (listedOf ops taken):=by simpa using b3
 have hlt:i<ops.size:=(Array.getElem?_eq_some_iff.1 hi).1;have hk:∀f∈facts,f.1≠i:=fun f hf he=>by have:(facts.map (·.1)).contains i=true:=List.contains_iff_mem.2 (List.mem_map.2 ⟨f,hf,he⟩);rw[b5]at this;cases this
 have h1:=h (fun j hj=>by exact(List.mem_cons.1 hj).elim (fun e=>e▸hlt) (ht j)) (hcl.step hr) ((FR.set hk).2 hfr) hpf;rw[show ops.size-taken.length=(ops.size-(i::taken).length)+1 from by simp only[List.length_cons];omega];exact wpAnyR_first hi (Region.noSelect_spec b1) (fun c a w=>hpf i _ hi c a _ w) hk _ _ a w (Region.free_spec hi b2) hr hy hcl hfr h1
theorem takeQ(i:Nat){oi:Oper}(hi:ops[i]?=some oi)(hB:takeB ops (facts.map (·.1)) taken i=true)(hp:plainOp oi.op=true)(hw:Region.wanted oi (yielded ops a.tmps)=true)
  (h:∀K:Act->Prop,(∀a',atR P ops KQ facts (i::taken) a' w->K a')->oi.quiet P a (fun _=>True) K):atR P ops KQ facts taken a w:=by
 obtain⟨v,hv,hn⟩:=h (fun a'=>atR P ops KQ facts (i::taken) a' w) (fun _ h=>h);refine readyR i hi hB v (.inl ⟨hw,fun w' hu=>?_⟩) hn;have h1:=hv w' trivial;unfold Oper.quietAt at h1;have h2:=plain_value (P:=P) hp a.eval w';generalize (execOp a.eval oi).run P w'=r at*
 cases r with
 |ok n w2=>obtain⟨u,rfl⟩:=h2 n w2 rfl;simp only[Oper.quietUpon]at h1;rw[h1.1,h1.2]
 | halt x w2=>exact h1.elim
theorem readQ(i:Nat){oi:Oper}(hi:ops[i]?=some oi)(hB:takeB ops (facts.map (·.1)) taken i=true)(v:Value)(hw:Region.wanted oi (yielded ops a.tmps)=true)
  (hr:∀w',upR .any ops facts i w'->(execOp a.eval oi).run P w'=.ok (.value v) w') (h:atR P ops KQ facts (i::taken) (a.put oi.dst v) w):atR P ops KQ facts taken a w:=
 readyR i hi hB v (.inl ⟨hw,hr⟩) h
theorem loadQ(i:Nat){oi:Oper}(hi:ops[i]?=some oi)(hB:takeB ops (facts.map (·.1)) taken i=true)(hw:Region.wanted oi (yielded ops a.tmps)=true){t:TypeId}{x:Operand}(hop:oi.op=.load t x){u:Value}(hx:a.eval x=u)
  (n:Nat) {k:Nat} {p:World->Prop} (hf:facts[n]?=some (k,p)) (hk:waits .any ops k i=true) (v:Value) (hr:∀w',p w'->(Instr.loadAt t u).run P w'=.ok v w')
  (h:atR P ops KQ facts (i::taken) (a.put oi.dst v) w):atR P ops KQ facts taken a w:=by
 refine readyR i hi hB v (.inl ⟨hw,fun w' hu=>?_⟩) h;have h1:=hr w' (hu.get k p (List.mem_of_getElem? hf) hk);simp only[execOp,hop,hx,Sem.run_bind,h1,Result.andThen_ok,Sem.run_pure]
theorem skipQ(i:Nat){oi:Oper}(hi:ops[i]?=some oi)(hB:takeB ops (facts.map (·.1)) taken i=true)(hw:Region.wanted oi (yielded ops a.tmps)=false)
  (h:atR P ops KQ facts (i::taken) (a.put oi.dst undef) w):atR P ops KQ facts taken a w:=
 readyR i hi hB undef (.inr ⟨hw,rfl⟩) h
structure Both (A B:Prop):Prop where
 one:A
 two:B
theorem stepQ(j:Nat){oj:Oper}(hj:ops[j]?=some oj)(hr:Region.ready .any ops (listedOf ops taken)=[j])(hlt:taken.length<ops.size)(hw:Region.wanted oj (yielded ops a.tmps)=true)
  (h:∀K:Act->World->Prop,(∀a' w',Both (HoldR (j::taken) facts w') (atR P ops KQ facts (j::taken) a' w')->K a' w')->oj.wp P a w K KQ):atR P ops KQ facts taken a w:=by
 intro ht hcl hfr hpf;rw[show ops.size-taken.length=(ops.size-(j::taken).length)+1 from by simp only[List.length_cons];omega];have hlj:j<ops.size:=(Array.getElem?_eq_some_iff.1 hj).1;have hrj:j∈Region.ready .any ops (listedOf ops taken):=by rw[hr];exact List.mem_singleton.2 rfl
 have ht':∀i∈j::taken,i<ops.size:=fun i hi=>by exact(List.mem_cons.1 hi).elim (fun e=>e▸hlj) (ht i)
 refine⟨fun h0=>absurd (hr.symm.trans h0) (by simp),fun i hi=>?_⟩;rw[hr]at hi;obtain rfl:=List.mem_singleton.1 hi;unfold wpOp;rw[hj];dsimp only;rw[if_pos hw];refine .inl (h _ fun a' w' hb=>?_);have hf:FR facts (listedOf ops (i::taken)) w':=fun f hf hl=>hb.one.mem f hf (by rw[listedOf_get _ _ ht']at hl;exact hl);exact⟨hf,hb.two ht' (hcl.step hrj) hf hpf⟩
theorem stepN(j:Nat){oj:Oper}(hj:ops[j]?=some oj)(hr:Region.ready .any ops (listedOf ops taken)=[j])(hlt:taken.length<ops.size)(hw:Region.wanted oj (yielded ops a.tmps)=true)
  (h:∀K:Act->World->Prop,(∀a' w',atR P ops KQ [] (j::taken) a' w'->K a' w')->oj.wp P a w K KQ):atR P ops KQ [] taken a w:=
 stepQ j hj hr hlt hw fun K hK=>h K fun a' w' h'=>hK a' w' ⟨trivial,h'⟩
theorem FR.nil{listed:Array Bool}:FR [] listed w:=fun f hf=>by cases hf
theorem doneQ(hr:Region.ready .any ops (listedOf ops taken)=[])(h:KQ .normal a w):atR P ops KQ facts taken a w:=by
 intro _ _ _ _;cases hn:ops.size-taken.length with
 | zero=>exact⟨hr,h⟩
 | succ n=>exact⟨fun _=>h,by rw[hr];intro i hi;cases hi⟩
def AllF:List Fact->World->Prop
 | [],_=>True
 | f::fs,w=>f.2 w/\AllF fs w
theorem AllF.mem{facts:List Fact}{w:World}(h:AllF facts w):∀f∈facts,f.2 w:=by
 induction facts with
 | nil=>intro f hf;cases hf
 |cons g fs ih=>
  intro f hf;rcases List.mem_cons.1 hf with rfl | hf
  ·exact h.1
  exact ih h.2 f hf
theorem regionQ{id:Nat}{a:Act}{w:World}{Q:Exit->Act->World->Prop}(facts:List Fact)(hm:P.follows .mixedOrders=true)(h0:AllF facts w.drew)
  (h:∀KQ,Shut (∀a w,Q .normal a w->KQ a w)->atR P ops (onlyN KQ) facts [] a w.drew):(Code.region id ops true).wp P Q a w:=by
 refine wp_K fun KQ hKQ=>?_;refine wp_region_any hm (wpAny_of_R _ _ _ _ (h KQ hKQ (fun _ hi=>by cases hi) ClosedL.start (fun f hf _=>h0.mem f hf) (onlyN_free _ _)))
theorem regionP{id:Nat}{a:Act}{w:World}{Q:Exit->Act->World->Prop}(facts:List Fact)(hpf:PutFree Q)(hm:P.follows .mixedOrders=true)(h0:AllF facts w.drew)
  (h:∀KQ,Shut (∀e a w,Q e a w->KQ e a w)->atR P ops KQ facts [] a w.drew):(Code.region id ops true).wp P Q a w:=
 wp_region_any hm (wpAny_of_R _ _ _ _ (h Q (fun _ _ _ h=>h) (fun _ hi=>by cases hi) ClosedL.start (fun f hf _=>h0.mem f hf) (hpf.on _)))
theorem regionPO{id:Nat}{a:Act}{w:World}{Q:Exit->Act->World->Prop}(facts:List Fact)(hpf:PutOn ops Q)(hm:P.follows .mixedOrders=true)(h0:AllF facts w.drew)
  (h:∀KQ,Shut (∀e a w,Q e a w->KQ e a w)->atR P ops KQ facts [] a w.drew):(Code.region id ops true).wp P Q a w:=
 wp_region_any hm (wpAny_of_R _ _ _ _ (h Q (fun _ _ _ h=>h) (fun _ hi=>by cases hi) ClosedL.start (fun f hf _=>h0.mem f hf) hpf))
end
theorem belw{X:Prop}(h:X:=by(repeat (first | exact Below.refl _ _ | (refine Below.setCell ?_ (by simp<;>omega) _) | (refine Below.alloc ?_ (by simp<;>omega) _) | refine Below.drew ?_))):X:=h
theorem GO:(∀{α:Type}(l:List α)(i:Nat)(h:i<l.toArray.size),l.toArray[i]'h=l[i]'(by simpa using h))/\(∀{α:Type}(a:α)(l:List α)(h:0<(a::l).length),(a::l)[0]'h=a)/\
  (∀{α:Type}(a:α)(l:List α)(i:Nat)(h:i+1<(a::l).length),(a::l)[i+1]'h=l[i]'(by simpa using h)):=
 ⟨fun l i h=>List.getElem_toArray h,fun _ _ _=>rfl,fun _ _ _ _=>rfl⟩
theorem PT:(∀(a:Act)(d:Tmp)(v:Value),a.put (some d) v={a with tmps:=a.tmps.setIfInBounds d v})/\(∀(a:Act)(v:Value),a.put none v=a)/\
  (∀{α:Type}(l:List α)(i:Nat)(x:α),l.toArray.setIfInBounds i x=(l.set i x).toArray)/\(∀{α:Type}(a x:α)(l:List α),(a::l).set 0 x=x::l)/\(∀{α:Type}(a x:α)(l:List α)(i:Nat),(a::l).set (i+1) x=a::l.set i x)/\
  (∀{α:Type}(l:List α)(i:Nat)(h:i<l.toArray.size),l.toArray[i]'h=l[i]'(by simpa using h))/\(∀{α:Type}(a:α)(l:List α)(h:0<(a::l).length),(a::l)[0]'h=a)/\
  (∀{α:Type}(a:α)(l:List α)(i:Nat)(h:i+1<(a::l).length),(a::l)[i+1]'h=l[i]'(by simpa using h)):=
 ⟨fun _ _ _=>rfl,fun _ _=>rfl,fun l i x=>List.setIfInBounds_toArray ..,fun _ _ _=>rfl,fun _ _ _ _=>rfl,GO.1,GO.2.1,GO.2.2⟩
structure TL (l:List Nat)(X:Prop):Prop where
 out:X
section
variable {P:Program} {ops:Array Oper} {KQ:Exit->Act->World->Prop} {facts:List Fact} {taken:List Nat} {a:Act} {w:World}
theorem TL.cons{i:Nat}{l:List Nat}{oi:Oper}(hi:ops[i]?=some oi)(hB:takeB ops (facts.map (·.1)) taken i=true)(hp:plainOp oi.op=true)(hw:Region.wanted oi (yielded ops a.tmps)=true)
  (h:∀K:Act->Prop,(∀a',TL l (atR P ops KQ facts (i::taken) a' w)->K a')->oi.quiet P a (fun _=>True) K):TL (i::l) (atR P ops KQ facts taken a w):=
 ⟨takeQ i hi hB hp hw fun K hK=>h K fun a' h'=>hK a' h'.out⟩
theorem TL.nil{X:Prop}(h:X):TL [] X:=⟨h⟩
theorem tQ(l:List Nat){X Q:Prop}(q:Q)(h:Q->TL l X:=by(intro hq;(repeat (refine TL.cons rfl (by kernel_rfl) rfl (by kernel_rfl) fun K hK=>?_;simp only[GO];go_big_quiet_op;refine hK _ ?_;clear hK K));exact TL.nil hq)):X:=(h q).out
theorem TL.skip{i:Nat}{oi:Oper}(hi:ops[i]?=some oi)(hB:takeB ops (facts.map (·.1)) taken i=true)(hw:Region.wanted oi (yielded ops a.tmps)=false)
  (h:atR P ops KQ facts (i::taken) (a.put oi.dst undef) w):TL [i] (atR P ops KQ facts taken a w):=⟨skipQ i hi hB hw h⟩
theorem uQ(i:Nat){X Q:Prop}(q:Q)(h:Q->TL [i] X:=by(intro hq;refine TL.skip rfl (by kernel_rfl) (by kernel_rfl) ?_;simp only[PT];exact hq)):X:=(h q).out
theorem sQ(j:Nat){oj:Oper}(h:∀K:Act->World->Prop,(∀a' w',Both (HoldR (j::taken) facts w') (atR P ops KQ facts (j::taken) a' w')->K a' w')->oj.wp P a w K KQ)
  (hj:ops[j]?=some oj:=by rfl) (hr:Region.ready .any ops (listedOf ops taken)=[j]:=by kernel_rfl) (hlt:taken.length<ops.size:=by decide) (hw:Region.wanted oj (yielded ops a.tmps)=true:=by kernel_rfl):atR P ops KQ facts taken a w:=
 stepQ j hj hr hlt hw h
theorem sN(j:Nat){oj:Oper}(h:∀K:Act->World->Prop,(∀a' w',atR P ops KQ [] (j::taken) a' w'->K a' w')->oj.wp P a w K KQ)
  (hj:ops[j]?=some oj:=by rfl) (hr:Region.ready .any ops (listedOf ops taken)=[j]:=by kernel_rfl) (hlt:taken.length<ops.size:=by decide) (hw:Region.wanted oj (yielded ops a.tmps)=true:=by kernel_rfl):atR P ops KQ [] taken a w:=
 stepN j hj hr hlt hw h
theorem dQ(h:KQ .normal a w)(hr:Region.ready .any ops (listedOf ops taken)=[]:=by kernel_rfl):atR P ops KQ facts taken a w:=doneQ hr h
structure LL (i n:Nat)(X:Prop):Prop where
 out:X
theorem LL.load{i n:Nat}{oi:Oper}(hi:ops[i]?=some oi)(hB:takeB ops (facts.map (·.1)) taken i=true)(hw:Region.wanted oi (yielded ops a.tmps)=true){t:TypeId}{x:Operand}(hop:oi.op=.load t x){u:Value}(hx:a.eval x=u)
  {k:Nat} {p:World->Prop} (hf:facts[n]?=some (k,p)) (hk:waits .any ops k i=true) (v:Value) (hr:∀w',p w'->(Instr.loadAt t u).run P w'=.ok v w')
  (h:atR P ops KQ facts (i::taken) (a.put oi.dst v) w):LL i n (atR P ops KQ facts taken a w):=⟨loadQ i hi hB hw hop hx n hf hk v hr h⟩
theorem lQ(i n:Nat){X Q:Prop}(q:Q)(h:Q->LL i n X:=by(intro hq;refine LL.load rfl (by kernel_rfl) (by kernel_rfl) rfl rfl rfl (by kernel_rfl) _ (fun w' hf=>by(go_simp<;>with_reducible rfl)) ?_;simp only[PT];exact hq)):X:=(h q).out
theorem lR(i n:Nat){oi:Oper}{t:TypeId}{x:Operand}{u:Value}{k:Nat}{p:World->Prop}{v:Value}(hi:ops[i]?=some oi)(hop:oi.op=.load t x)(hx:a.eval x=u)(hf:facts[n]?=some (k,p))(hr:∀w',p w'->(Instr.loadAt t u).run P w'=.ok v w')
  (h:atR P ops KQ facts (i::taken) (a.put oi.dst v) w) (hB:takeB ops (facts.map (·.1)) taken i=true:=by kernel_rfl) (hw:Region.wanted oi (yielded ops a.tmps)=true:=by kernel_rfl) (hk:waits .any ops k i=true:=by kernel_rfl):atR P ops KQ facts taken a w:=
 loadQ i hi hB hw hop hx n hf hk v hr h
end
end
section
attribute [local go_sem] Oper.semAt_some
theorem bs_one(l:List UInt8):∀u∈bs l,u.oneCell'=true:=by intro u hu;obtain⟨x,_,rfl⟩:=List.mem_map.1 hu;rfl
theorem append_src{P:Program}{w:World}{ops:Array Oper}{rest:List Oper}{o:Oper}{a:Act}{Q:Exit->Act->World->Prop}{t e:TypeId}{z:Value}{bytes:Nat}(hgd:o.guard=none)(s x:Operand)
  (ho:o.op=.call {callee:=.builtin .append,args:=#[s,x],argTypes:=#[t,t]}) (E:ElemT P t e z 1 bytes)
  (base:Nat) (v:Value) (n:Nat) (xs:List Value) (hs:a.eval s=v) (hown:w.ownsRow base e 1 v n xs) (ad:Addr) (m c:Nat) (ys:List Value) (hu:∀u∈ys,u.oneCell'=true)
  (hx:a.eval x=.slice (some ad) m c) (hrow:RowAt w (some ad) m c ys) (h63:n+m<=140737488355328) (hbytes:(n+m)*bytes<=140737488355328) (hbase:base<=w.heap.size)
  (h:∀v' w',w'.ownsRow base e 1 v' (n+m) (xs++ys)->w.grownBy w' v.ownBlock->(v'=.slice none 0 0↔v=.slice none 0 0/\m=0)->wpList P ops Q rest (a.put o.dst v') w'):wpList P ops Q (o::rest) a w:=by
 obtain⟨i,hi,hz0,hz1,hz2⟩:=info_parts E.info;refine wpList_append_own _ hgd s x t ho base e i z 1 bytes E.ht hi hz0 hz1 hz2 E.hzs (by decide) v n xs hs hown ad m c ys hx (by rw[hrow.len];omega) ?_ hu ?_ hbytes hbase h
 ·intro j u hj;have hjm:j<m:=by have:=(List.getElem?_eq_some_iff.1 hj).1;have:=hrow.len;omega
  obtain⟨b,off,ha,hc⟩:=hrow.cells j hjm;cases ha;rw[hj]at hc;by_cases h0:j=0
  ·subst h0;simpa[Addr.add]using hc
  simpa[Addr.add,h0]using hc
 unfold maxLen;omega
theorem append_any{P:Program}{w:World}{ops:Array Oper}{rest:List Oper}{o:Oper}{a:Act}{Q:Exit->Act->World->Prop}{t e:TypeId}{z:Value}{bytes:Nat}(hgd:o.guard=none)(s x:Operand)
  (ho:o.op=.call {callee:=.builtin .append,args:=#[s,x],argTypes:=#[t,t]}) (E:ElemT P t e z 1 bytes)
  (base:Nat) (v:Value) (n:Nat) (xs:List Value) (hs:a.eval s=v) (hown:w.ownsRow base e 1 v n xs) (ad:Option Addr) (m c:Nat) (ys:List Value) (hu:∀u∈ys,u.oneCell'=true)
  (hx:a.eval x=.slice ad m c) (hrow:RowAt w ad m c ys) (h63:n+m<=140737488355328) (hbytes:(n+m)*bytes<=140737488355328) (hbase:base<=w.heap.size)
  (h:∀v' w',w'.ownsRow base e 1 v' (n+m) (xs++ys)->w.grownBy w' v.ownBlock->wpList P ops Q rest (a.put o.dst v') w'):wpList P ops Q (o::rest) a w:=by
 cases ad with
 | some ad=>exact append_src hgd s x ho E base v n xs hs hown ad m c ys hu hx hrow h63 hbytes hbase (fun v' w' h1 h2 _=>h v' w' h1 h2)
 |none=>
  obtain⟨i,hi,hz0,hz1,hz2⟩:=info_parts E.info;have hc:=hrow.hnil rfl;have hm:m=0:=by have:=hrow.le;omega
  have hy:ys=[]:=List.eq_nil_of_length_eq_zero (by rw[hrow.len,hm]);subst hc hm hy;refine wpList_append_own_none hgd s x t ho base e i 1 E.ht hi v n xs hs hown hx (h v w (by simpa using hown) (World.grownBy.refl w _))
def Owned(w:World)(base:Nat):List Value->List (List UInt8)->Prop
 | [],[]=>True
 | v::vs,p::ps=>w.ownsRow base 5 1 v p.length (bs p)/\Owned w base vs ps
 | _,_=>False
theorem cutL_le(r:List UInt8)(h:fullL r=true):cutL r<=r.length/\0<cutL r:=by obtain⟨g1,g2,g3,g4,g5,g6,g7⟩:=readL_facts r;simp only[fullL,Bool.and_eq_true,decide_eq_true_eq]at h;unfold cutL;omega
theorem ChainL.len{most:Int}{l:List UInt8}{ps:List (List UInt8)}{r:List UInt8}(h:ChainL most l ps r):ps.length+r.length<=l.length:=by
 induction ps generalizing l with
 | nil=>obtain rfl:l=r:=h;simp
 |cons p ps ih=>
  have h1:=ih h.2.2.2;have h2:=cutL_le l h.2.1;simp only[List.length_drop,List.length_cons]at*
  omega
theorem ChainL.drop{most:Int}{l:List UInt8}{ps:List (List UInt8)}{r:List UInt8}(h:ChainL most l ps r):l.drop (l.length-r.length)=r:=by
 have key:∃k,k<=l.length/\r=l.drop k:=by
  induction ps generalizing l with
  | nil=>obtain rfl:l=r:=h;exact⟨0,Nat.zero_le _,rfl⟩
  |cons p ps ih=>obtain⟨k,hk,hr⟩:=ih h.2.2.2;have h2:=cutL_le l h.2.1;simp only[List.length_drop]at hk;exact⟨cutL l+k,by omega,by rw[hr,List.drop_drop]⟩
 obtain⟨k,hk,rfl⟩:=key;rw[List.length_drop,show l.length-(l.length-k)=k from by omega]
theorem Owned.map{w w':World}{base base':Nat}{vs:List Value}{ps:List (List UInt8)}(h:Owned w base vs ps)(hf:∀v p,w.ownsRow base 5 1 v p.length (bs p)->w'.ownsRow base' 5 1 v p.length (bs p)):Owned w' base' vs ps:=by
 induction vs generalizing ps with
 |nil=>cases ps with
  | nil=>trivial
  | cons p ps=>exact h
 |cons v vs ih=>cases ps with
  | nil=>exact h
  | cons p ps=>exact⟨hf _ _ h.1,ih h.2⟩
theorem Tryz.szB(W:World):(sizeOf (prog.elem 22)).run prog W=.ok 1 W:=by kernel_rfl
theorem Tryz.uelB:prog.underlying 22=some (.slice (prog.elem 22)):=by kernel_rfl
theorem Owned.wrote{w w':World}{M:List Nat}{base:Nat}{vs:List Value}{ps:List (List UInt8)}(h:Owned w base vs ps)(hw:Wrote M w w')(hM:∀x∈M,x<base):Owned w' base vs ps:=by
 induction vs generalizing ps with
 |nil=>cases ps with
  | nil=>trivial
  | cons p ps=>exact h
 |cons v vs ih=>cases ps with
  | nil=>exact h
  | cons p ps=>exact⟨hw.row hM h.1,ih h.2⟩
end
theorem mk_bytes(n:Nat)(h:n<=140737488355328):∀w,(Instr.makeSlice 22 (.int .i64 (n:Int)) (.int .i64 (n:Int))).run prog w=.ok (.slice (some ⟨w.heap.size,0,none⟩) n n) (w.alloc (.cells (madeCells #[.int .u8 0] n) 5)):=by intro w;obtain⟨i,hi,hz0,hz1,hz2⟩:=info_parts Tryz.eByte.info;have hr:=run_make (P:=prog) w 22 5 i _ Tryz.eByte.ht hi hz0 .i64 .i64 n n (by omega) (by omega) (by rw[hz2];omega) (by omega);simp only[Int.toNat_natCast]at hr;rw[hr,hz1,Nat.mul_one];rfl
theorem ofInt_i32(a:Nat)(ha:a<2147483648):(BitVec.ofInt 32 (a:Int)).toNat=a:=by rw[BitVec.ofInt_natCast,BitVec.toNat_ofNat];exact Nat.mod_eq_of_lt (by omega)
theorem i32_and63(q:Nat)(h:q<2147483648):bits .and .i32 (q:Int) 63=((q%64:Nat):Int):=by show IntKind.i32.wrap ((BitVec.ofInt 32 (q:Int)&&&BitVec.ofInt 32 ((63:Nat):Int)).toNat:Int)=_;rw[BitVec.toNat_and,ofInt_i32 q h,ofInt_i32 63 (by omega),IntKind.wrap_i32,Nat.and_two_pow_sub_one_eq_mod q 6];omega
theorem or_pow(i a b:Nat)(h:b<2^i):(2^i*a)|||b=2^i*a+b:=(Nat.two_pow_add_eq_or_of_lt h a).symm
theorem i32_or128(x:Nat)(h:x<64):bits .or .i32 128 (x:Int)=((128+x:Nat):Int):=by show IntKind.i32.wrap ((BitVec.ofInt 32 ((128:Nat):Int)|||BitVec.ofInt 32 (x:Int)).toNat:Int)=_;rw[BitVec.toNat_or,ofInt_i32 x (by omega),ofInt_i32 128 (by omega),IntKind.wrap_i32,or_pow 7 1 x (by omega)];omega
theorem ofInt_u8(a:Nat)(ha:a<256):(BitVec.ofInt 8 (a:Int)).toNat=a:=by rw[BitVec.ofInt_natCast,BitVec.toNat_ofNat];exact Nat.mod_eq_of_lt (by omega)
theorem u8_or(i a x:Nat)(h:x<2^i)(ha:2^i*a+x<256):bits .or .u8 ((2^i*a:Nat):Int) (x:Int)=((2^i*a+x:Nat):Int):=by show IntKind.u8.wrap ((BitVec.ofInt 8 ((2^i*a:Nat):Int)|||BitVec.ofInt 8 (x:Int)).toNat:Int)=_;rw[BitVec.toNat_or,ofInt_u8 x (by omega),ofInt_u8 _ (by omega),IntKind.wrap_u8,or_pow i a x h];omega
theorem cls_0(w:World):(Instr.index 395 (.agg #[.int .i32 0,.int .u8 0,.int .i32 128,.int .u8 0,.int .i32 2048,.int .u8 192,.int .i32 65536,.int .u8 224,.int .i32 1114112,.int .u8 240]) (.int .i64 0)).run prog w=.ok (.agg #[.int .i32 0,.int .u8 0]) w:=by kernel_rfl
theorem cls_1(w:World):(Instr.index 395 (.agg #[.int .i32 0,.int .u8 0,.int .i32 128,.int .u8 0,.int .i32 2048,.int .u8 192,.int .i32 65536,.int .u8 224,.int .i32 1114112,.int .u8 240]) (.int .i64 1)).run prog w=.ok (.agg #[.int .i32 128,.int .u8 0]) w:=by kernel_rfl
theorem cls_2(w:World):(Instr.index 395 (.agg #[.int .i32 0,.int .u8 0,.int .i32 128,.int .u8 0,.int .i32 2048,.int .u8 192,.int .i32 65536,.int .u8 224,.int .i32 1114112,.int .u8 240]) (.int .i64 2)).run prog w=.ok (.agg #[.int .i32 2048,.int .u8 192]) w:=by kernel_rfl
theorem cls_3(w:World):(Instr.index 395 (.agg #[.int .i32 0,.int .u8 0,.int .i32 128,.int .u8 0,.int .i32 2048,.int .u8 192,.int .i32 65536,.int .u8 224,.int .i32 1114112,.int .u8 240]) (.int .i64 3)).run prog w=.ok (.agg #[.int .i32 65536,.int .u8 224]) w:=by kernel_rfl
theorem cls_4(w:World):(Instr.index 395 (.agg #[.int .i32 0,.int .u8 0,.int .i32 128,.int .u8 0,.int .i32 2048,.int .u8 192,.int .i32 65536,.int .u8 224,.int .i32 1114112,.int .u8 240]) (.int .i64 4)).run prog w=.ok (.agg #[.int .i32 1114112,.int .u8 240]) w:=by kernel_rfl
theorem cls_fld(b l:Int)(w:World):(Instr.field 394 (.agg #[.int .i32 b,.int .u8 l]) 1).run prog w=.ok (.int .u8 l) w:=by kernel_rfl
def fillR:Nat->Nat->Array Value->Nat×Array Value
 | 0,r,cs=>(r,cs)
 | k+1,r,cs=>fillR k (r / 64) (cs.setIfInBounds (k+1) (.int .u8 ((128+r%64:Nat):Int)))
theorem raw_end1(m q:Nat)(cs:Array Value)(hm:m<=1114111)(hl:lenR m=1)(h:fillR 0 q cs=fillR 0 m (madeCells #[.int .u8 0] 1)):
  cs.setIfInBounds 0 (.int .u8 (bits .or .u8 0 ((q:Int)%256)))=(bs (encR m)).toArray:=by
 have h1:q=m / 1:=by have:=congrArg Prod.fst h;simp[fillR]at this;omega
 have h2:cs=(fillR 0 m (madeCells #[.int .u8 0] 1)).2:=congrArg Prod.snd h;clear h;unfold lenR at hl;have hr:m<128:=by
  repeat' split at hl
  all_goals omega
 have h3:((q:Int)%256)=((q:Nat):Int):=by omega
 have h4:=u8_or 8 0 q (by omega) (by omega);rw[h3,show(0:Int)=((2^8*0:Nat):Int)from rfl,h4,h2,h1];have he:encR m=[b8 (m)]:=by unfold encR;rw[if_pos (show m<128 by omega)]
 have hb:bs (encR m)=[.int .u8 ((m:Nat):Int)]:=by rw[he];simp only[bs,List.map_cons,List.map_nil,b8_nat (m) (by omega)]
 have hmc:madeCells #[.int .u8 0] 1=#[.int .u8 0]:=Array.toList_inj.1 (by rw[toList_madeCells_one];rfl);rw[hb,hmc];simp[fillR]
 all_goals omega
theorem raw_end2(m q:Nat)(cs:Array Value)(hm:m<=1114111)(hl:lenR m=2)(h:fillR 0 q cs=fillR 1 m (madeCells #[.int .u8 0] 2)):
  cs.setIfInBounds 0 (.int .u8 (bits .or .u8 192 ((q:Int)%256)))=(bs (encR m)).toArray:=by
 have h1:q=m / 64:=by have:=congrArg Prod.fst h;simp[fillR]at this;omega
 have h2:cs=(fillR 1 m (madeCells #[.int .u8 0] 2)).2:=congrArg Prod.snd h;clear h;unfold lenR at hl;have hr:128<=m/\m<2048:=by
  repeat' split at hl
  all_goals omega
 have h3:((q:Int)%256)=((q:Nat):Int):=by omega
 have h4:=u8_or 6 3 q (by omega) (by omega);rw[h3,show(192:Int)=((2^6*3:Nat):Int)from rfl,h4,h2,h1];have he:encR m=[b8 (192+m / 64),b8 (128+m%64)]:=by unfold encR;rw[if_neg (show¬m<128 by omega),if_pos (show m<2048 by omega)]
 have hb:bs (encR m)=[.int .u8 ((192+m / 64:Nat):Int),.int .u8 ((128+m%64:Nat):Int)]:=by rw[he];simp only[bs,List.map_cons,List.map_nil,b8_nat (192+m / 64) (by omega),b8_nat (128+m%64) (by omega)]
 have hmc:madeCells #[.int .u8 0] 2=#[.int .u8 0,.int .u8 0]:=Array.toList_inj.1 (by rw[toList_madeCells_one];rfl);rw[hb,hmc];simp[fillR]
 all_goals omega
theorem raw_end3(m q:Nat)(cs:Array Value)(hm:m<=1114111)(hl:lenR m=3)(h:fillR 0 q cs=fillR 2 m (madeCells #[.int .u8 0] 3)):
  cs.setIfInBounds 0 (.int .u8 (bits .or .u8 224 ((q:Int)%256)))=(bs (encR m)).toArray:=by
 have h1:q=m / 4096:=by have:=congrArg Prod.fst h;simp[fillR]at this;omega
 have h2:cs=(fillR 2 m (madeCells #[.int .u8 0] 3)).2:=congrArg Prod.snd h;clear h;unfold lenR at hl;have hr:2048<=m/\m<65536:=by
  repeat' split at hl
  all_goals omega
 have h3:((q:Int)%256)=((q:Nat):Int):=by omega
 have h4:=u8_or 5 7 q (by omega) (by omega);rw[h3,show(224:Int)=((2^5*7:Nat):Int)from rfl,h4,h2,h1];have he:encR m=[b8 (224+m / 4096),b8 (128+m / 64%64),b8 (128+m%64)]:=by unfold encR;rw[if_neg (show¬m<128 by omega),if_neg (show¬m<2048 by omega),if_pos (show m<65536 by omega)]
 have hb:bs (encR m)=[.int .u8 ((224+m / 4096:Nat):Int),.int .u8 ((128+m / 64%64:Nat):Int),.int .u8 ((128+m%64:Nat):Int)]:=by rw[he];simp only[bs,List.map_cons,List.map_nil,b8_nat (224+m / 4096) (by omega),b8_nat (128+m / 64%64) (by omega),b8_nat (128+m%64) (by omega)]
 have hmc:madeCells #[.int .u8 0] 3=#[.int .u8 0,.int .u8 0,.int .u8 0]:=Array.toList_inj.1 (by rw[toList_madeCells_one];rfl);rw[hb,hmc];simp[fillR]
 all_goals omega
theorem raw_end4(m q:Nat)(cs:Array Value)(hm:m<=1114111)(hl:lenR m=4)(h:fillR 0 q cs=fillR 3 m (madeCells #[.int .u8 0] 4)):
  cs.setIfInBounds 0 (.int .u8 (bits .or .u8 240 ((q:Int)%256)))=(bs (encR m)).toArray:=by
 have h1:q=m / 262144:=by have:=congrArg Prod.fst h;simp[fillR]at this;omega
 have h2:cs=(fillR 3 m (madeCells #[.int .u8 0] 4)).2:=congrArg Prod.snd h;clear h;unfold lenR at hl;have hr:65536<=m:=by
  repeat' split at hl
  all_goals omega
 have h3:((q:Int)%256)=((q:Nat):Int):=by omega
 have h4:=u8_or 4 15 q (by omega) (by omega);rw[h3,show(240:Int)=((2^4*15:Nat):Int)from rfl,h4,h2,h1];have he:encR m=[b8 (240+m / 262144),b8 (128+m / 4096%64),b8 (128+m / 64%64),b8 (128+m%64)]:=by unfold encR;rw[if_neg (show¬m<128 by omega),if_neg (show¬m<2048 by omega),if_neg (show¬m<65536 by omega)]
 have hb:bs (encR m)=[.int .u8 ((240+m / 262144:Nat):Int),.int .u8 ((128+m / 4096%64:Nat):Int),.int .u8 ((128+m / 64%64:Nat):Int),.int .u8 ((128+m%64:Nat):Int)]:=by rw[he];simp only[bs,List.map_cons,List.map_nil,b8_nat (240+m / 262144) (by omega),b8_nat (128+m / 4096%64) (by omega),b8_nat (128+m / 64%64) (by omega),b8_nat (128+m%64) (by omega)]
 have hmc:madeCells #[.int .u8 0] 4=#[.int .u8 0,.int .u8 0,.int .u8 0,.int .u8 0]:=Array.toList_inj.1 (by rw[toList_madeCells_one];rfl);rw[hb,hmc];simp[fillR]
 all_goals omega
theorem raw_fin(w w1:World)(hb1:Below w.heap.size w w1)(cs:Array Value)(m:Nat)(h:cs=(bs (encR m)).toArray)(L:Nat)(hL:lenR m=L)(o:Obj):
  ∃v,Ending.returned (.slice (some ⟨w1.heap.size,0,none⟩) L L)=.returned v/\((w1.alloc (.cells cs 5)).alloc o).ownsRow w.heap.size 5 1 v (lenR m) (bs (encR m))/\Below w.heap.size w ((w1.alloc (.cells cs 5)).alloc o):=by
 subst h hL;have h1:=(lenR_bd m);have hle:(bs (encR m)).length=lenR m:=by rw[bs_len,encR_len]
 refine⟨_,rfl,?_,(hb1.alloc hb1.size _).alloc (by have:=hb1.size;simp;omega) _⟩;refine ownsRow_below (ownsRow_mono (base:=w1.heap.size) ?_ hb1.size) (bel_refl.alloc nat_le_rfl _);exact⟨by simp[hle],.inr ⟨w1.heap.size,lenR m,_,rfl,Nat.le_refl _,World.alloc_heap_new w1 _,Nat.le_refl _,by unfold maxLen;omega,by simp[hle],by simp[hle,List.take_of_length_le]⟩⟩
theorem utf_raw(m:Nat)(w:World)(hm:m<=1114111):
  Calls prog 353 #[.int .i32 m] w fun e w'=>∃v,e=.returned v/\w'.ownsRow w.heap.size 5 1 v (lenR m) (bs (encR m))/\Below w.heap.size w w':=by
 have hl:=lenR_bd m;have hmk:=mk_bytes (lenR m) (by omega);go_enter func353,ntmps353;go_wp2_with fail
 refine(utf_long m _ hm).mono ?_;rintro e w1 ⟨rfl,hb1⟩;go_wp2_with fail
 generalize hL:lenR m=L at*
 have hs0:(madeCells #[Value.int .u8 0] L).size=L:=by simp[madeCells]
 generalize hcs:madeCells #[Value.int .u8 0] L=cs0 at*
 go_loopw [0,5] (fun r i wr=>∃(k q:Nat)(cs:Array Value),k<L/\r=.int .i32 q/\q<=1114111/\i=.int .i64 k/\wr=w1.alloc (.cells cs 5)/\cs.size=L/\Hid (fillR k q cs=fillR (L-1) m cs0)) (fun _ i _=>(intOf i).toNat)
 case atStart=>exact⟨L-1,m,cs0,by omega,rfl,hm,(by congr 1;omega),rfl,hs0,rfl⟩
 case round=>
  obtain⟨k,q,cs,hk,rfl,hq,rfl,rfl,hcs',hf⟩:=hrel;have hcell:(w1.alloc (.cells cs 5)).cell? ⟨w1.heap.size,k,none⟩=some (cs[k]'(by omega)):=by rw[World.cell?_alloc_at _ _ _ _ rfl];simp
  rcases Nat.eq_zero_or_pos k with rfl | hk0
  ·rcases(show L=1\/L=2\/L=3\/L=4 by omega)with rfl | rfl | rfl | rfl
   ·have hix:=fun w=>cls_1 w;have hfl:=fun w=>cls_fld 128 0 w;go_wp2_with fail
    refine(utf_classes _).mono ?_;rintro e w2 ⟨rfl,rfl⟩;have hc2:=cell_alloc hcell (.cells #[.int .i32 0,.int .u8 0,.int .i32 128,.int .u8 0,.int .i32 2048,.int .u8 192,.int .i32 65536,.int .u8 224,.int .i32 1114112,.int .u8 240] 395);go_wp2;go_ret;exact raw_fin w w1 hb1 _ m (raw_end1 m q cs hm hL (hcs▸hf)) _ hL _
   ·have hix:=fun w=>cls_2 w;have hfl:=fun w=>cls_fld 2048 192 w;go_wp2_with fail
    refine(utf_classes _).mono ?_;rintro e w2 ⟨rfl,rfl⟩;have hc2:=cell_alloc hcell (.cells #[.int .i32 0,.int .u8 0,.int .i32 128,.int .u8 0,.int .i32 2048,.int .u8 192,.int .i32 65536,.int .u8 224,.int .i32 1114112,.int .u8 240] 395);go_wp2;go_ret;exact raw_fin w w1 hb1 _ m (raw_end2 m q cs hm hL (hcs▸hf)) _ hL _
   ·have hix:=fun w=>cls_3 w;have hfl:=fun w=>cls_fld 65536 224 w;go_wp2_with fail
    refine(utf_classes _).mono ?_;rintro e w2 ⟨rfl,rfl⟩;have hc2:=cell_alloc hcell (.cells #[.int .i32 0,.int .u8 0,.int .i32 128,.int .u8 0,.int .i32 2048,.int .u8 192,.int .i32 65536,.int .u8 224,.int .i32 1114112,.int .u8 240] 395);go_wp2;go_ret;exact raw_fin w w1 hb1 _ m (raw_end3 m q cs hm hL (hcs▸hf)) _ hL _
   have hix:=fun w=>cls_4 w;have hfl:=fun w=>cls_fld 1114112 240 w;go_wp2_with fail
   refine(utf_classes _).mono ?_;rintro e w2 ⟨rfl,rfl⟩;have hc2:=cell_alloc hcell (.cells #[.int .i32 0,.int .u8 0,.int .i32 128,.int .u8 0,.int .i32 2048,.int .u8 192,.int .i32 65536,.int .u8 224,.int .i32 1114112,.int .u8 240] 395);go_wp2;go_ret;exact raw_fin w w1 hb1 _ m (raw_end4 m q cs hm hL (hcs▸hf)) _ hL _
  obtain⟨k,rfl⟩:∃j,k=j+1:=⟨k-1,by omega⟩;have e1:=i32_and63 q (by omega);have e2:=i32_or128 (q%64) (by omega);go_wp2;go_roundw
  case rel=>refine⟨k,q / 64,cs.setIfInBounds (k+1) (.int .u8 ((128+q%64:Nat):Int)),by omega,rfl,by omega,rfl,?_,by simp[hcs'],hf⟩;rfl
  case measure=>simp[intOf]
theorem RowAt.one(w:World)(v:Value)(T:TypeId):RowAt (w.alloc (.cells #[v] T)) (some ⟨w.heap.size,0,none⟩) 1 1 [v]:=RowAt.new w #[v] T (0,0) (by simp[maxLen])
theorem len_raw(n:Int)(w:World)(hm:mayL n=true):
  Calls prog 92 #[.int .i64 n] w fun e w'=>∃v,e=.returned (.tuple #[v,.int .i64 0])/\w'.ownsRow w.heap.size 5 1 v (sizeL n) (bs (rawL (sizeL n) n.toNat))/\Below w.heap.size w w':=by
 have HA:=hid (len_all (some ⟨w.heap.size,0,none⟩) 1 1 [n] (w.alloc (.cells #[.int .i64 n] 2)) (RowAt.one _ _ _) (by decide) (by simpa using hm));go_enter func92,ntmps92;go_wp2_with fail
 refine HA.mono ?_;rintro e w1 ⟨v,rfl,ho,hb⟩;have h1:allL [n]=rawL (sizeL n) n.toNat:=by simp[allL]
 rw[h1,rawL_len]at ho;go_wp2
 go_ret2
 exact⟨_,rfl,ownsRow_mono ho (by simp),((Below.refl _ w).alloc nat_le_rfl _).trans (hb.mono (by simp))⟩
def splitF(most:Int):Nat->List UInt8->List (List UInt8)×List UInt8
 | 0,r=>([],r)
 | f+1,r=>if errL most r=0/\fullL r=true then(partL r::(splitF most f (r.drop (cutL r))).1,(splitF most f (r.drop (cutL r))).2)else([],r)
theorem ChainL.split{most:Int}{l:List UInt8}{ps:List (List UInt8)}{r:List UInt8}(h:ChainL most l ps r)(he:¬(errL most r=0/\fullL r=true))(f:Nat)(hf:ps.length<f):splitF most f l=(ps,r):=by
 induction ps generalizing l f with
 |nil=>
  obtain rfl:l=r:=h;cases f with
  | zero=>rfl
  | succ f=>simp only[splitF,if_neg he]
 | cons p ps ih=>
  cases f with
  | zero=>simp at hf
  |succ f=>have h1:=ih h.2.2.2 f (by simpa using hf);simp only[splitF,if_pos (⟨h.1,h.2.1⟩:errL most l=0/\fullL l=true),h1,h.2.2.1]
theorem run_str{w:World}{a:Option Addr}{n cap:Nat}{l:List UInt8}(h:RowAt w a n cap (bs l)):(convert 22 9 (.slice a n cap)).run prog w=.ok (.string ⟨l.toArray⟩) w:=by
 have hn:l.length=n:=by have:=h.len;rwa [bs_len]at this
 subst hn;cases a with
 | none=>
  have h0:l=[]:=by
   cases l with
   | nil=>rfl
   | cons x l=>obtain⟨_,_,ha,_⟩:=h.cells 0 (by simp);cases ha
  subst h0;exact run_convert_bytes_nil (w:=w) 22 5 underlying22 underlying5 _ _ 9 underlying9
 |some ad=>
  refine run_convert_bytes_back w 22 9 5 ad cap l underlying22 underlying5 underlying9 (fun j hj=>?_);obtain⟨b,off,ha,hc⟩:=h.byte hj;cases ha;rw[List.getElem?_eq_getElem hj,Option.getD_some]at hc;by_cases h0:j=0
  ·subst h0;simpa[Addr.add]using hc
  simpa[Addr.add,h0]using hc
theorem ref_raw(n:Int)(w:World)(hm:mayL n=true):
  Calls prog 88 #[.int .i64 n] w fun e w'=>∃v,e=.returned (.tuple #[v,.bool true])/\w'.ownsRow w.heap.size 5 1 v (sizeL n) (bs (rawL (sizeL n) n.toNat))/\Below w.heap.size w w':=by
 obtain⟨h1,h2⟩:=(mayL_iff n).1 hm;obtain⟨m,rfl⟩:=Int.eq_ofNat_of_zero_le h1;clear hm h1;go_enter func88,ntmps88;go_wp2;go_loopw [0,4] (fun i v wr=>∃k q:Nat,i=.int .i64 q/\Hid (q=m / 128^k)/\q<268435456/\k<=4/\Hid (sizeL (m:Int)=k+sizeL (q:Int))/\wr.ownsRow w.heap.size 5 1 v k (bs (rawL k m))/\Below w.heap.size w wr) (fun i _ _=>(intOf i).toNat)
 case atStart=>exact⟨0,m,rfl,by simp[Hid],by omega,by omega,by simp[Hid],World.ownsRow_nil _ _ _ _,Below.refl _ _⟩
 case round=>
  obtain⟨k,q,rfl,HQ,hq,hk,HS,how,hbel⟩:=hrel;have hsz:=hbel.size;by_cases h128:128<=q
  ·have e2:((q:Int) / 128)=((q / 128:Nat):Int):=by omega
   have hs:=HS.out;rw[sizeL_nat q hq]at hs;have hdiv:sizeL (q:Int)=1+sizeL ((q / 128:Nat):Int):=by
    rw[sizeL_nat q hq,sizeL_nat (q / 128) (by omega)]
    repeat' split
    all_goals omega
   have hk3:k+1<=4:=by have:=sizeL_le (m:Int);split at hs<;>(try omega)<;>(repeat' split at hs)<;>omega
   have HD:=hid hdiv;clear hs hdiv e2;have hby:(128+(q:Int)%128)=((byteL q).toNat:Int):=by rw[<-byteL_int,if_neg (by omega)];omega
   have hby2:((byteL q).toNat:Int)%256=((byteL q).toNat:Int):=by have:=(byteL q).toNat_lt;omega
   have hsn:=rawL_snoc k m;rw[<-HQ.out]at hsn;generalize byteL q=y at*
   have HSN:=hid hsn;clear hsn;go_wp2_with (at_builtin;refine append_one rfl _ _ rfl Tryz.eByte w.heap.size _ _ _ rfl how (.int .u8 y.toNat) rfl rfl (by omega) (by omega) (by omega) ?_;intro v' w4 how4 hg4)
   go_roundw
   case rel=>
    refine⟨k+1,q / 128,by go_num,?_,by omega,hk3,?_,?_,hbel.grown hg4 (by omega) (fun j hj=>(how.lt j hj).1)⟩
    ·show q / 128=m / 128^(k+1);rw[HQ.out,Nat.div_div_eq_div_mul,<-Nat.pow_succ]
    ·show sizeL (m:Int)=k+1+_;have h1:=HS.out;have h2:=HD.out;omega
    rw[HSN.out,bs_snoc];exact how4
   case measure=>simp[intOf];omega
  have hs:=HS.out;have hq1:sizeL (q:Int)=1:=by rw[sizeL_nat q hq,if_pos (by omega)]
  rw[hq1]at hs;have HS1:=hid hs;clear hs hq1;have hby:(q:Int)=((byteL q).toNat:Int):=by rw[<-byteL_int,if_pos (by omega)]
  have hby2:((byteL q).toNat:Int)%256=((byteL q).toNat:Int):=by have:=(byteL q).toNat_lt;omega
  have hq256:(q:Int)%256=q:=by omega
  have hsn:=rawL_snoc k m;rw[<-HQ.out]at hsn;have HSN:=hid hsn;have HBY:=hid hby
  clear hsn hby hby2;go_wp2_with (at_builtin;refine append_one rfl _ _ rfl Tryz.eByte w.heap.size _ _ _ rfl how (.int .u8 q) rfl rfl (by omega) (by omega) (by omega) ?_;intro v' w4 how4 hg4)
  go_ret2
  refine⟨_,rfl,?_,hbel.grown hg4 (by omega) (fun j hj=>(how.lt j hj).1)⟩;rw[HS1.out,Int.toNat_natCast,HSN.out,bs_snoc];rw[HBY.out]at how4;exact how4
theorem byteL_mod(m:Nat):(byteL m).toNat%128=m%128:=by have:=byteL_int m;split at this<;>omega
theorem byteL_lt(m:Nat):(byteL m).toNat<128↔m<128:=by have:=byteL_int m;split at this<;>omega
theorem rawL_cons(s m:Nat):rawL (s+1) m=byteL m::rawL s (m / 128):=rfl
theorem takenL_raw(s m:Nat)(h:m<128^s):takenL (rawL s m)=m:=by
 induction s generalizing m with
 | zero=>simp at h;subst h;rfl
 |succ s ih=>rw[rawL_cons,takenL,byteL_mod,ih (m / 128) (by rw[Nat.pow_succ]at h;omega)];omega
theorem idxOf_raw(k m:Nat)(t:List UInt8)(h:m<128^(k+1))(h2:k=0\/128^k<=m):idxOf (fun x:UInt8=>decide (x.toNat<128)) (rawL (k+1) m++t)=k:=by
 induction k generalizing m with
 |zero=>have h1:=(byteL_lt m).2 (by simpa using h);simp[rawL_cons,idxOf,h1]
 |succ k ih=>
  have hp:128^(k+1)<=m:=h2.resolve_left (by omega);rw[Nat.pow_succ]at hp h;have hpos:0<128^k:=Nat.pow_pos (by decide);have h128:¬(byteL m).toNat<128:=fun h1=>by have:=(byteL_lt m).1 h1;omega
  have h3:=ih (m / 128) (by omega) (by omega);rw[rawL_cons (k+1) m,List.cons_append,idxOf];simp only[h128,decide_false,h3];simp;omega
theorem idxOf_takeL{α:Type}(p:α->Bool)(l:List α)(k m:Nat)(h:idxOf p l=k)(hm:k<m):idxOf p (l.take m)=k:=by
 induction l generalizing k m with
 | nil=>simp[idxOf]at h
 | cons x l ih=>
  cases m with
  | zero=>omega
  | succ m=>
   simp only[List.take_succ_cons,idxOf]at h ⊢;by_cases hp:p x=true
   ·simp only[hp,if_true]at h ⊢;exact h
   simp only[hp]at h ⊢;have h1:=(idxOf_lt p l).2;by_cases h0:idxOf p l<0
   ·simp[h0]at h
   simp only[h0]at h;have h2:=ih (k-1) m (by simp at h;omega) (by simp at h;omega);rw[h2];simp at h ⊢;omega
theorem readL_raw(n:Int)(hm:mayL n=true)(t:List UInt8):readL (rawL (sizeL n) n.toNat++t)=(n,(sizeL n:Int),0):=by
 obtain⟨h1,h2⟩:=(mayL_iff n).1 hm;obtain⟨m,rfl⟩:=Int.eq_ofNat_of_zero_le h1;rw[Int.toNat_natCast];obtain⟨k,hk,hk4,hlo,hhi⟩:∃k,sizeL (m:Int)=k+1/\k<4/\(k=0\/128^k<=m)/\m<128^(k+1):=by
  have h3:=sizeL_nat m (by omega);split at h3
  ·exact⟨0,h3,by omega,.inl rfl,by simpa using by omega⟩
  split at h3
  ·exact⟨1,h3,by omega,.inr (by simp;omega),by simp;omega⟩
  split at h3
  ·exact⟨2,h3,by omega,.inr (by simp;omega),by simp;omega⟩
  exact⟨3,h3,by omega,.inr (by simp;omega),by simp;omega⟩
 rw[hk];have e1:=idxOf_takeL _ _ k 4 (idxOf_raw k m t hhi hlo) hk4;have e2:(rawL (k+1) m++t).take (k+1)=rawL (k+1) m:=by rw[List.take_append_of_le_length (by rw[rawL_len];exact Nat.le_refl _),List.take_of_length_le (by rw[rawL_len];exact Nat.le_refl _)]
 unfold readL;simp only[e1,Int.toNat_natCast,e2,takenL_raw (k+1) m hhi,hk];rw[if_neg (by omega)];simp
def leads:List Int:=[0,0,192,224,240]
def CL:Array Value:=#[.int .i32 0,.int .u8 0,.int .i32 128,.int .u8 0,.int .i32 2048,.int .u8 192,.int .i32 65536,.int .u8 224,.int .i32 1114112,.int .u8 240]
theorem cls_at(k:Nat)(h:k<5)(w:World):(Instr.index 395 (.agg CL) (.int .i64 k)).run prog w=.ok (.agg #[.int .i32 (belows[k]?.getD 0),.int .u8 (leads[k]?.getD 0)]) w:=by
 rcases(show k=0\/k=1\/k=2\/k=3\/k=4 by omega)with rfl | rfl | rfl | rfl | rfl
 ·exact cls_0 w
 ·exact cls_1 w
 ·exact cls_2 w
 ·exact cls_3 w
 exact cls_4 w
theorem str_size(s:List UInt8):ByteArray.size ⟨s.toArray⟩=s.length:=by simp[ByteArray.size]
theorem str_idx(s:List UInt8)(i:Nat)(h:i<s.length)(W:World):(Instr.index 9 (.string ⟨s.toArray⟩) (.int .i64 i)).run prog W=.ok (.int .u8 (at8 s i)) W:=by rw[run_index_string _ 9 _ _ _ underlying9,dif_pos (by rw[str_size];omega)];simp[at8,h,ByteArray.getElem_eq_getElem_data]
theorem str_extract(s:List UInt8)(i j:Nat):(ByteArray.mk s.toArray).extract i j=⟨((s.take j).drop i).toArray⟩:=by apply ByteArray.ext;rw[ByteArray.data_extract];simp[List.drop_take]
theorem str_cut(s:List UInt8)(i j:Nat)(hi:i<=j)(hj:j<=s.length)(W:World):(Instr.slice 9 (.string ⟨s.toArray⟩) (some (.int .i64 i)) (some (.int .i64 j)) none).run prog W=.ok (.string ⟨((s.take j).drop i).toArray⟩) W:=by rw[run_slice_string _ 9 _ _ _ _ _ underlying9 (by omega) (by omega) (by rw[str_size];omega)];simp[str_extract]
theorem str_to(s:List UInt8)(j:Nat)(hj:j<=s.length)(W:World):(Instr.slice 9 (.string ⟨s.toArray⟩) none (some (.int .i64 j)) none).run prog W=.ok (.string ⟨(s.take j).toArray⟩) W:=by rw[run_slice_string_h (ht:=underlying9) (h0:=by omega) (h2:=by rw[str_size];omega)];simp[str_extract]
theorem str_from(s:List UInt8)(i:Nat)(hi:i<=s.length)(W:World):(Instr.slice 9 (.string ⟨s.toArray⟩) (some (.int .i64 i)) none none).run prog W=.ok (.string ⟨(s.drop i).toArray⟩) W:=by rw[run_slice_string_l (ht:=underlying9) (h0:=by omega) (h1:=by rw[str_size];omega)];rw[str_size];simp[str_extract]
theorem bytesRow_cell(w0:World)(bd:List UInt8)(cap:Nat)(t:TypeId)(fz:Nat×Nat)(j:Nat)(h:j<bd.length):
  (w0.alloc (.cells (bytesRow ⟨bd.toArray⟩ cap) t fz)).cell? ⟨w0.heap.size,j,none⟩=some (.int .u8 (at8 bd j)):=by
 have h1:=World.alloc_heap_new w0 (.cells (bytesRow ⟨bd.toArray⟩ cap) t fz);simp only[World.cell?,h1];simp[bytesRow,at8,Array.getElem?_append,h]
theorem at8_body(s:List UInt8)(k j:Nat)(h:j<k-1):at8 (s.take k).tail j=at8 s (j+1):=by unfold at8;rw[List.getElem?_tail,List.getElem?_take_of_lt (by omega)]
theorem utf_may_is(r:Nat)(b:Bool)(h:mayR r=b)(w:World):Calls prog 352 #[.int .i32 r] w fun e w'=>e=.returned (.bool b)/\w=w':=h▸utf_may r w
def mdR(k:Nat):Nat:=if k=1 then 256 else if k=2 then 64 else if k=3 then 32 else 16
def accV(k:Nat)(s:List UInt8):Nat->Nat
 | 0=>at8 s 0%mdR k
 | j+1=>accV k s j*64+at8 s (j+1)%64
theorem accV_lt(k:Nat)(s:List UInt8)(j:Nat)(h:j<=3):accV k s j<67108864:=by have h0:=at8_lt s 0;have h1:at8 s 0%mdR k<=at8 s 0:=Nat.mod_le _ _;rcases(show j=0\/j=1\/j=2\/j=3 by omega)with rfl | rfl | rfl | rfl<;>simp only[accV]<;>omega
theorem accV_val(k:Nat)(s:List UInt8)(h1:1<=k)(h4:k<=4):accV k s (k-1)=valR k s:=by have h0:=at8_lt s 0;rcases(show k=1\/k=2\/k=3\/k=4 by omega)with rfl | rfl | rfl | rfl<;>simp[accV,valR,mdR]<;>omega
theorem u8_andNot(k:Nat)(h1:1<=k)(h4:k<=4)(x:Nat)(hx:x<256):bits .andNot .u8 (x:Int) (leads[k]?.getD 0)=((x%mdR k:Nat):Int):=by
 have h:∀y:Fin 256,bits .andNot .u8 (y.val:Int) 0=((y.val%256:Nat):Int)/\bits .andNot .u8 (y.val:Int) 192=((y.val%64:Nat):Int)/\bits .andNot .u8 (y.val:Int) 224=((y.val%32:Nat):Int)/\bits .andNot .u8 (y.val:Int) 240=((y.val%16:Nat):Int):=by decide+kernel
 obtain⟨a,b,c,d⟩:=h ⟨x,hx⟩;rcases(show k=1\/k=2\/k=3\/k=4 by omega)with rfl | rfl | rfl | rfl
 ·exact a
 ·exact b
 ·exact c
 exact d
theorem u8_and63(x:Nat)(hx:x<256):bits .and .u8 (x:Int) 63=((x%64:Nat):Int):=by
 have h:∀y:Fin 256,bits .and .u8 (y.val:Int) 63=((y.val%64:Nat):Int):=by decide+kernel
 exact h ⟨x,hx⟩
theorem i32_or64(q x:Nat)(hq:q<33554432)(h:x<64):bits .or .i32 ((q*64:Nat):Int) (x:Int)=((q*64+x:Nat):Int):=by show IntKind.i32.wrap ((BitVec.ofInt 32 ((q*64:Nat):Int)|||BitVec.ofInt 32 (x:Int)).toNat:Int)=_;rw[BitVec.toNat_or,ofInt_i32 x (by omega),ofInt_i32 _ (by omega),IntKind.wrap_i32,Nat.mul_comm q 64,or_pow 6 q x (by omega)];omega
theorem utf_first(s:List UInt8)(w:World)(hs:s.length<=140737488355328):
  Calls prog 330 #[.string ⟨s.toArray⟩] w fun e w'=>e=.returned (.tuple #[.int .i32 (firstF s).1,.int .i64 (firstF s).2])/\Below w.heap.size w w':=by
 go_enter func330,ntmps330;go_wp2_with fail
 refine(utf_classes _).mono ?_;rintro e w1 ⟨rfl,rfl⟩;have hb1:Below w.heap.size w (w.alloc (.cells CL 395)):=bel_refl.alloc nat_le_rfl _;generalize hw1:(w.alloc (.cells #[.int .i32 0,.int .u8 0,.int .i32 128,.int .u8 0,.int .i32 2048,.int .u8 192,.int .i32 65536,.int .u8 224,.int .i32 1114112,.int .u8 240] 395))=w1 at*
 have hb1:Below w.heap.size w w1:=hw1▸hb1;have hsz:ByteArray.size ⟨s.toArray⟩=s.length:=by simp[ByteArray.size]
 rw[show(#[.int .i32 0,.int .u8 0,.int .i32 128,.int .u8 0,.int .i32 2048,.int .u8 192,.int .i32 65536,.int .u8 224,.int .i32 1114112,.int .u8 240]:Array Value)=CL from rfl];go_wp2;go_loopw [4,5,6,8,10] (fun _ _ _ _ i wr=>∃(k:Nat),k<=5/\i=.int .i64 k/\Hid (∀j,j<k->j≠0->okR j s=false)/\Below w.heap.size w wr) (fun _ _ _ _ i _=>5-(intOf i).toNat)
 case atStart=>exact⟨0,by omega,rfl,fun j hj=>absurd hj (Nat.not_lt_zero _),hb1⟩
 case round=>
  obtain⟨k,hk,rfl,hj,hbel⟩:=hrel;rcases Nat.lt_or_ge k 5 with hk5 | hk5
  ·have hix:=cls_at k hk5;rcases Nat.eq_zero_or_pos k with rfl | hk0
   ·have hix2:∀w,(Instr.index 395 (.agg CL) (.int .i64 0)).run prog w=.ok (.agg #[.int .i32 0,.int .u8 0]) w:=cls_0;rw[show((0:Nat):Int)=0 from rfl];go_wp2;go_roundw
    case rel=>exact⟨1,by omega,rfl,fun j hj h0=>absurd hj (by omega),hbel.alloc hbel.size _⟩
    case measure=>simp[intOf]
   rcases Nat.lt_or_ge s.length k with hlen | hlen
   ·go_wp2;go_roundw
    case rel=>
     refine⟨k+1,by omega,rfl,fun j hj' h0=>?_,hbel.alloc hbel.size _⟩;rcases Nat.lt_or_ge j k with h | h
     ·exact hj.out j h h0
     have:j=k:=by omega
     subst this;simp[okR];omega
    case measure=>simp[intOf];omega
   generalize hLd:leads[k]?.getD 0=ld at*
   generalize hBl:belows[k]?.getD 0=bl at*
   have hc1:(wr.alloc (.cells #[.int .i32 bl,.int .u8 ld] 394)).cell? ⟨wr.heap.size,1,none⟩=some (.int .u8 ld):=by rw[World.cell?_alloc_at _ _ _ _ rfl];simp
   have hn1:¬(k:Int)=0:=by omega
   have hn2:¬(s.length:Int)<k:=by omega
   have hx0:=fun W=>str_idx s 0 (by omega) W;have hx0':∀W,(Instr.index 9 (.string ⟨s.toArray⟩) (.int .i64 0)).run prog W=.ok (.int .u8 (at8 s 0)) W:=hx0;have han:=u8_andNot k (by omega) (by omega) (at8 s 0) (at8_lt s 0);rw[hLd]at han;obtain⟨a0,ha0⟩:=gen_of (at8 s 0%mdR k);rw[ha0]at han;have hw32:wrap32 (a0:Int)=a0:=by have h0:=at8_lt s 0;have h1:at8 s 0%mdR k<=at8 s 0:=Nat.mod_le _ _;unfold wrap32;omega
   obtain⟨bd,hbd⟩:=gen_of ((s.take k).tail);have hbl:bd.length=k-1:=by rw[<-hbd];simp;omega
   have hcv:=fun W=>run_bytes_of_string (P:=prog) W 9 22 5 ⟨bd.toArray⟩ underlying9 underlying22 underlying5;have hct:∀W,(Instr.slice 9 (.string ⟨s.toArray⟩) (some (.int .i64 1)) (some (.int .i64 k)) none).run prog W=.ok (.string ⟨bd.toArray⟩) W:=fun W=>by rw[<-hbd,<-List.drop_one];exact str_cut s 1 k (by omega) hlen W
   have hat:Hid (∀j,j<k-1->at8 bd j=at8 s (j+1)):=fun j hj=>by rw[<-hbd];exact at8_body s k j hj
   have hac:Hid (a0=accV k s 0):=ha0.symm;clear hbd ha0;go_wp2;go_region
   rw[hw32];go_wp2;rw[hac];go_loopw [6,8,33] (fun r _ i wi=>∃(j:Nat),j<=k-1/\r=.int .i32 (accV k s j)/\i=.int .i64 j/\Hid (Below w.heap.size w wi/\∀j,j<k-1->wi.cell? ⟨wr.heap.size+1,j,none⟩=some (.int .u8 (at8 s (j+1))))) (fun _ _ i _=>k-(intOf i).toNat)
   case atStart=>refine⟨0,by omega,rfl,rfl,(((hbel.alloc hbel.size _).alloc (by have:=hbel.size;simp;omega) _).drew).drew,fun j hj=>?_⟩;rw[<-hat j hj];have h1:=fun f1 f2=>bytesRow_cell (wr.alloc (.cells #[.int .i32 bl,.int .u8 ld] 394)) bd (grownCap (wr.alloc (Obj.cells #[Value.int IntKind.i32 bl,Value.int IntKind.u8 ld] 394)).drew (k-1) 0 5) 5 (f1,f2) j (by omega);simp only[World.size_alloc]at h1;exact h1 _ _
   case round=>
    obtain⟨j,hjk,rfl,rfl,hin⟩:=hrel;clear hcv hix hx0 hx0' hc1 han hw1;rcases Nat.lt_or_ge j (k-1)with hjl | hjl
    ·have hc:=hin.out.2 j hjl;have hv:=accV_lt k s j (by omega);have hv2:=accV_lt k s (j+1) (by omega);have g1:=u8_and63 (at8 s (j+1)) (at8_lt s (j+1));have g2:=i32_or64 (accV k s j) (at8 s (j+1)%64) (by simp only[accV]at hv2;omega) (by omega);go_wp2;go_roundw
     case rel=>
      have e1:wrap32 ((accV k s j:Int)*64)=((accV k s j*64:Nat):Int):=by simp only[accV]at hv2;unfold wrap32;omega
      refine⟨j+1,by omega,?_,rfl,hin⟩;rw[e1,show((at8 s (j+1):Int)%64)=((at8 s (j+1)%64:Nat):Int)from rfl,g2];rfl
     case measure=>simp[intOf];omega
    obtain rfl:j=k-1:=by omega
    rw[accV_val k s (by omega) (by omega)];have hbel2:=hin.out.1;clear hin;have hvl:=valR_lt k s;have hok:=okR_iff k s;generalize hvv:valR k s=v at*
    have HV:=hid hvv;clear hvv;have hct2:=fun W=>str_to s k hlen W;rcases Nat.eq_zero_or_pos v with rfl | hv0
    ·go_wp2;go_region
     go_wp2;go_roundw
     case rel=>
      refine⟨k+1,by omega,rfl,fun i hi h0=>?_,hbel2.drew⟩;rcases Nat.lt_or_ge i k with h | h
      ·exact hj.out i h h0
      have:i=k:=by omega
      subst this;exact Bool.eq_false_iff.2 (fun h=>(hok.1 h).2.1 rfl)
     case measure=>simp[intOf];omega
    have hv1:¬v=0:=by omega
    go_wp2;have hne:((v:Int)!=0)=true:=by simp;omega
    refine regionQ [] (by kernel_rfl) trivial fun KQ hKQ=>?_;refine tQ [0,1,2,3] ?_;refine sN 4 fun K hK=>?_;simp only[GO];go_simp;cases hmy:mayR v
    ·refine(utf_may_is v _ hmy _).mono ?_;rintro e w5 ⟨rfl,rfl⟩;refine hK _ _ ?_;clear hK K;try simp only[PT]
     refine tQ [5,6] ?_;refine uQ 7 ?_;refine uQ 8 ?_;refine uQ 9 ?_;refine uQ 10 ?_;refine uQ 11 ?_;refine uQ 12 ?_;refine uQ 13 ?_;refine tQ [14] ?_;refine dQ (hKQ.out _ _ ?_);clear hKQ KQ;go_wp2;go_roundw
     case rel=>
      refine⟨k+1,by omega,rfl,fun i hi h0=>?_,hbel2.drew⟩;rcases Nat.lt_or_ge i k with h | h
      ·exact hj.out i h h0
      have:i=k:=by omega
      subst this;exact Bool.eq_false_iff.2 (fun h=>by have:=(hok.1 h).2.2.1;rw[hmy]at this;cases this)
     case measure=>simp[intOf];omega
    refine(utf_may_is v _ hmy _).mono ?_;rintro e w5 ⟨rfl,rfl⟩;refine hK _ _ ?_;clear hK K;try simp only[PT]
    refine tQ [5,6,7,10,11,12] ?_;refine sN 8 fun K hK=>?_;simp only[GO];go_simp;refine(utf_raw v _ (by have:=(mayR_iff v).1 hmy;omega)).mono ?_;rintro e w6 ⟨rv,rfl,how6,hb6⟩;obtain⟨ra,rc,rfl,hrow⟩:=RowAt.of_own how6;have hcv6:=run_str hrow;have hbel6:=hbel2.drew.trans (hb6.mono hbel2.drew.size);refine hK _ _ ?_;clear hK K;try simp only[PT]
    refine sN 9 fun K hK=>?_;simp only[GO];go_simp;refine hK _ _ ?_;clear hK K;try simp only[PT]
    by_cases hE:encR v=s.take k
    ·rw[hE];refine tQ [13,14] ?_;refine dQ (hKQ.out _ _ ?_);clear hKQ KQ;go_wp2;refine bodyPost_ret (v:=.tuple #[.int .i32 v,.int .i64 k]) (by simp[results,results330,go_sem]) rfl ⟨?_,hbel6⟩;have hokk:okR k s=true:=hok.2 ⟨hlen,by omega,hmy,hE⟩;have hno:∀j,j<k->j≠0->okR j s=false:=hj.out;have hfs:firstF s=(v,k):=by
      rw[<-HV.out];unfold firstF;rcases(show k=1\/k=2\/k=3\/k=4 by omega)with rfl | rfl | rfl | rfl
      ·rw[if_pos hokk]
      ·rw[if_neg (by rw[hno 1 (by omega) (by omega)];exact Bool.false_ne_true),if_pos hokk]
      ·rw[if_neg (by rw[hno 1 (by omega) (by omega)];exact Bool.false_ne_true),if_neg (by rw[hno 2 (by omega) (by omega)];exact Bool.false_ne_true),if_pos hokk]
      rw[if_neg (by rw[hno 1 (by omega) (by omega)];exact Bool.false_ne_true),if_neg (by rw[hno 2 (by omega) (by omega)];exact Bool.false_ne_true),if_neg (by rw[hno 3 (by omega) (by omega)];exact Bool.false_ne_true),if_pos hokk]
     rw[hfs]
    have hE2:((⟨(encR v).toArray⟩:ByteArray).toList==(⟨(s.take k).toArray⟩:ByteArray).toList)=false:=by rw[ByteArray.toList_eq,ByteArray.toList_eq];simpa using hE
    have hE3:(encR v==s.take k)=false:=by simpa using hE
    refine tQ [13,14] ?_;refine dQ (hKQ.out _ _ ?_);clear hKQ KQ;go_wp2;go_roundw
    case rel=>
     refine⟨k+1,by omega,rfl,fun i hi h0=>?_,hbel6⟩;rcases Nat.lt_or_ge i k with h | h
     ·exact hj.out i h h0
     have:i=k:=by omega
     subst this;exact Bool.eq_false_iff.2 (fun h=>hE (hok.1 h).2.2.2)
    case measure=>simp[intOf];omega
  obtain rfl:k=5:=by omega
  go_wp2;refine bodyPost_ret (v:=.tuple #[.int .i32 0,.int .i64 0]) (by simp[results,results330,go_sem]) rfl ⟨?_,hbel⟩;have g1:=hj.out 1 (by omega) (by omega);have g2:=hj.out 2 (by omega) (by omega);have g3:=hj.out 3 (by omega) (by omega);have g4:=hj.out 4 (by omega) (by omega);simp[firstF,g1,g2,g3,g4]
section
section
variable {P:Program} {ops:Array Oper} {KQ:Exit->Act->World->Prop} {facts:List Fact} {taken:List Nat} {a:Act} {w:World}
theorem stepQ2(j1 j2:Nat){o1 o2:Oper}(hj1:ops[j1]?=some o1)(hj2:ops[j2]?=some o2)(hr:Region.ready .any ops (listedOf ops taken)=[j1,j2])(hlt:taken.length<ops.size)
  (hw1:Region.wanted o1 (yielded ops a.tmps)=true) (hw2:Region.wanted o2 (yielded ops a.tmps)=true)
  (h1:∀K:Act->World->Prop,(∀a' w',Both (HoldR (j1::taken) facts w') (atR P ops KQ facts (j1::taken) a' w')->K a' w')->o1.wp P a w K KQ)
  (h2:∀K:Act->World->Prop,(∀a' w',Both (HoldR (j2::taken) facts w') (atR P ops KQ facts (j2::taken) a' w')->K a' w')->o2.wp P a w K KQ):atR P ops KQ facts taken a w:=by
 intro ht hcl hfr hpf;have hl1:j1<ops.size:=(Array.getElem?_eq_some_iff.1 hj1).1;have hl2:j2<ops.size:=(Array.getElem?_eq_some_iff.1 hj2).1;have go:∀(j:Nat)(oj:Oper),ops[j]?=some oj->j<ops.size->j∈Region.ready .any ops (listedOf ops taken)->Region.wanted oj (yielded ops a.tmps)=true->
   (∀K:Act->World->Prop,(∀a' w',Both (HoldR (j::taken) facts w') (atR P ops KQ facts (j::taken) a' w')->K a' w')->oj.wp P a w K KQ)->
   wpOp P ops KQ j (fun a' w'=>FR facts ((listedOf ops taken).setIfInBounds j true) w'/\wpAnyR P .any ops KQ facts (ops.size-(j::taken).length) ((listedOf ops taken).setIfInBounds j true) a' w') a w:=by
  intro j oj hj hlj hrj hw h;have ht':∀i∈j::taken,i<ops.size:=fun i hi=>by exact(List.mem_cons.1 hi).elim (fun e=>e▸hlj) (ht i)
  unfold wpOp;rw[hj];dsimp only;rw[if_pos hw];refine .inl (h _ fun a' w' hb=>?_);have hf:FR facts (listedOf ops (j::taken)) w':=fun f hf hl=>hb.one.mem f hf (by rw[listedOf_get _ _ ht']at hl;exact hl);exact⟨hf,hb.two ht' (hcl.step hrj) hf hpf⟩
 have e1:ops.size-taken.length=(ops.size-(j1::taken).length)+1:=by simp only[List.length_cons];omega
 rw[e1];refine⟨fun h0=>absurd (hr.symm.trans h0) (by simp),fun i hi=>?_⟩;rw[hr]at hi;have hi':i=j1\/i=j2:=by simpa using hi
 rcases hi' with rfl | rfl
 ·exact go _ _ hj1 hl1 (by rw[hr];simp) hw1 h1
 exact go _ _ hj2 hl2 (by rw[hr];simp) hw2 h2
end
section
variable {P:Program} {ops:Array Oper} {KQ:Exit->Act->World->Prop} {facts:List Fact} {taken:List Nat} {a:Act} {w:World}
theorem nilQ(i:Nat){oi:Oper}(hi:ops[i]?=some oi)(hB:takeB ops (facts.map (·.1)) taken i=true)(hw:Region.wanted oi (yielded ops a.tmps)=true){x:Operand}(hop:oi.op=.nilCheck x){p:Addr}(hx:a.eval x=.pointer (some p))
  (h:atR P ops KQ facts (i::taken) (a.put oi.dst (.pointer (some p))) w):atR P ops KQ facts taken a w:=by
 refine readQ i hi hB _ hw (fun w' _=>?_) h;simp[execOp,hop,hx]
theorem TL.niln{i:Nat}{oi:Oper}(hi:ops[i]?=some oi)(hB:takeB ops (facts.map (·.1)) taken i=true)(hw:Region.wanted oi (yielded ops a.tmps)=true){x:Operand}(hop:oi.op=.nilCheck x){p:Addr}(hx:a.eval x=.pointer (some p))
  (h:atR P ops KQ facts (i::taken) (a.put oi.dst (.pointer (some p))) w):TL [i] (atR P ops KQ facts taken a w):=⟨nilQ i hi hB hw hop hx h⟩
theorem nQ(i:Nat){X Q:Prop}(q:Q)(h:Q->TL [i] X:=by(intro hq;refine TL.niln rfl (by kernel_rfl) (by kernel_rfl) rfl rfl ?_;simp only[PT];exact hq)):X:=(h q).out
end
end
end Go.Proofs.YtkghejaimhoboaaGreatDoor
