/- Parts of the proof of ScriptRaws. -/
import Derived.Test.YtkghejaimhoboaaGreatDoorPr05
import Derived.Laws.Runes
import Derived.Laws.RangeAny
import Derived.Lib.OthersKept
import Derived.RegionTactic
import Derived.Handy
import Derived.Laws.EntriesVeiled
import Derived.Shelf.Spec.TrailingZeros
import Derived.BigRegionIn
import Derived.RegionIn
import Derived.BigRegion
set_option linter.unusedSimpArgs false
set_option linter.unusedVariables false
set_option maxRecDepth 100000
set_option maxHeartbeats 8000000
namespace Go.Proofs.YtkghejaimhoboaaGreatDoor
open Go.RowKit Go.Shelf Go.Proofs.Tryz
theorem below_drewN'(w:World)(n:Nat):Below w.heap.size w (w.drewN n):=by
 induction n with
 | zero=>exact Below.refl _ _
 | succ n ih=>exact ih.drew
theorem utf8_ValidRune(r:Int)(w:World):
  Calls prog 302 #[.int .i32 r] w fun e w'=>(e=.returned (.bool (Utf8.valid r)))/\w=w':=by
 by_cases h1:0<=r
 ·by_cases h2:r<55296
  ·have hv:Utf8.valid r=true:=by unfold Utf8.valid;simp;omega
   go_enter func302,ntmps302;go_wp2;go_ret;simp[hv]
  have d2:decide (r<55296)=false:=decide_eq_false h2;by_cases h3:57343<r
  ·by_cases h4:r<=1114111
   ·have hv:Utf8.valid r=true:=by unfold Utf8.valid;simp;omega
    go_enter func302,ntmps302;go_wp2;go_ret;simp[hv]
   have d4:decide (r<=1114111)=false:=decide_eq_false h4;have hv:Utf8.valid r=false:=by unfold Utf8.valid;simp;omega
   go_enter func302,ntmps302;go_wp2;go_ret;simp[hv]
  have d3:decide (57343<r)=false:=decide_eq_false h3;have hv:Utf8.valid r=false:=by unfold Utf8.valid;simp;omega
  go_enter func302,ntmps302;go_wp2;go_ret;simp[hv]
 have d1:decide (0<=r)=false:=decide_eq_false h1;have d3:decide (57343<r)=false:=decide_eq_false (by omega);have hv:Utf8.valid r=false:=by unfold Utf8.valid;simp;omega
 go_enter func302,ntmps302;go_wp2;go_ret;simp[hv]
theorem idxRune_high(r:Int)(w:World)(h128:128<=r):
  Calls prog 280 #[.string ⟨#[43,35]⟩,.int .i32 r] w fun e w'=>e=.returned (.int .i64 (-1))/\Below w.heap.size w w':=by
 have d1:decide (r<128)=false:=decide_eq_false (by omega);by_cases he:r=65533
 ·subst he;go_enter func280,ntmps280;go_wp2
  go_loopg [5,6] 2 (fun g _ _ wx=>∃i:Nat,i+g=2/\wx=w.iter ⟨#[43,35]⟩ i)
  case atStart=>exact⟨0,by omega,rfl⟩
  case round=>
   obtain⟨i,hig,rfl⟩:=hrel;cases gk with
   |zero=>
    obtain rfl:i=2:=by omega
    have hnx:=fun ty=>run_next_end (P:=prog) w ⟨#[43,35]⟩ 2 ty (by decide);go_wp2;go_ret;exact⟨rfl,bel_refl.alloc nat_le_rfl _⟩
   | succ g=>
    have hi:i=0\/i=1:=by omega
    rcases hi with rfl | rfl
    ·have hnx:=fun ty=>run_next_ascii (P:=prog) w ⟨#[43,35]⟩ 0 ty (by decide) (by decide);go_wp2
     go_roundg g
     case measure=>omega
     case rel=>exact⟨1,by omega,rfl⟩
    have hnx:=fun ty=>run_next_ascii (P:=prog) w ⟨#[43,35]⟩ 1 ty (by decide) (by decide);go_wp2
    go_roundg g
    case measure=>omega
    case rel=>exact⟨2,by omega,rfl⟩
 have d2:(r==65533)=false:=by simpa using he
 have CV:=hid (utf8_ValidRune r);cases hv:Utf8.valid r with
 |false=>
  rw[hv]at CV;go_enter func280,ntmps280;go_wp2_with (go_at_call 302;refine(CV _).mono ?_;rintro e w1 ⟨rfl,rfl⟩)
  go_ret;exact⟨rfl,Below.refl _ _⟩
 | true=>
  rw[hv]at CV;obtain⟨g1,g2,g3⟩:=encode_facts r hv h128;obtain⟨E,hE⟩:=gen_of (Utf8.encode r);rw[hE]at g1 g2 g3;have hE:=hid hE;by_cases hs2:E.size=2
  ·have IB:Hid (∀(s:ByteArray)(c:Int)(w:World),Calls prog 301 #[.string s,.int .u8 c] w fun e w'=>e=.returned (.int .i64 (Lib.indexByte s.data.toList c.toNat.toUInt8))/\w'=w):=hid fun s c w=>Any.strings_IndexByte {Tryz.lays152 with} s c w;have g4:∀h,128<=((E[1]'h).toNat:Int):=fun h=>by
    have:=g3 (by omega);have e:E.size-1=1:=by omega
    simp only[e]at this;omega
   obtain⟨c,hc⟩:=gen_of (((E[1]'(by omega)).toNat:Int):Int);have g5:∀h,((E[1]'h).toNat:Int)=c:=fun h=>hc;have hcb:=g4 (by omega);rw[hc]at hcb;have nb:∀h,(⟨#[43,35]⟩:ByteArray)[1]'h=35:=fun _=>rfl;have n0:((35:Int)!=c)=true:=by simp;omega
   have nc:((35:UInt8).toNat:Int)=35:=rfl;have hsz:(E.size:Int)=2:=by omega
   clear g1 g2 g3 g4 hc;go_enter func280,ntmps280;go_wp2_with (go_at_call 302;refine(CV _).mono ?_;rintro e w1 ⟨rfl,rfl⟩)
   refine wp_scope_straight ?_;go_wp2;go_loopw [9,10] (fun i f wr=>i=.int .i64 1/\f=.int .i64 0/\wr=w) (fun _ _ _=>0)
   case atStart=>exact⟨rfl,rfl,rfl⟩
   case round=>
    obtain⟨rfl,rfl,rfl⟩:=hrel;go_wp2;refine wp_scope_straight ?_;go_wp2;go_quiet (fail);go_wp2;have hw2:IntKind.i64.wrap 2=2:=by decide
    have hsl:∀W:World,(Instr.slice 9 (.string ⟨#[43,35]⟩) (some (.int .i64 2)) none none).run prog W=.ok (.string ⟨#[]⟩) W:=fun W=>by kernel_rfl
    have hii:Lib.indexByte [] c.toNat.toUInt8= -1:=rfl;go_quiet ((refine(IB _ _ _).mono fun e w' h=>⟨h.1,_,h.2⟩));go_wp2;rw[Exit.noGoto_ret];go_wp2;rw[Exit.noGoto_ret];go_ret;exact⟨rfl,below_drewN' _ _⟩
  have hge:(2:Int)<(E.size:Int):=by omega
  have hge4:(E.size:Int)<=4:=by omega
  obtain⟨n,hn⟩:=gen_of ((E.size:Int):Int);rw[hn]at hge hge4;have d3:decide (n-1<2)=false:=decide_eq_false (by omega);have hw:wrap64 (n-1)=n-1:=by unfold wrap64;omega
  clear g1 g2 g3;go_enter func280,ntmps280;go_wp2_with (go_at_call 302;refine(CV _).mono ?_;rintro e w1 ⟨rfl,rfl⟩)
  refine wp_scope_straight ?_;go_wp2;go_loopw [9,10] (fun i f wr=>i=.int .i64 (n-1)/\f=.int .i64 0/\wr=w) (fun _ _ _=>0)
  case atStart=>exact⟨rfl,rfl,rfl⟩
  case round=>obtain⟨rfl,rfl,rfl⟩:=hrel;go_wp2;rw[Exit.noGoto_ret];go_ret;exact⟨rfl,Below.refl _ _⟩
theorem decode_step(s:ByteArray)(i:Nat)(h:i<s.size)(ha:128<=(s[i]'h).toNat):
  1<=(Utf8.decode s i).2/\i+(Utf8.decode s i).2<=s.size/\∀j b,i<=j->j<i+(Utf8.decode s i).2->s.data.toList[j]?=some b->128<=b.toNat:=by
 have hat:∀k b,s.data.toList[i+k]?=some b->(s.get! (i+k))=b:=fun k b hb=>by
  have hlt:i+k<s.size:=by rw[Lib.size_eq];exact(List.getElem?_eq_some_iff.1 hb).1
  have:=Lib.data_getElem? s (i+k) hlt;rw[this]at hb;simp only[Option.some.injEq]at hb;rw[<-hb];simp[ByteArray.get!,getElem!_pos,hlt];rfl
 have cont:∀k,(s.get! (i+k)).toNat / 64=2->128<=(s.get! (i+k)).toNat:=fun k h=>by omega
 have key:∀d,(∀k,1<=k->k<d->i+k<s.size/\(s.get! (i+k)).toNat / 64=2)->1<=d->1<=d/\i+d<=s.size/\∀j b,i<=j->j<i+d->s.data.toList[j]?=some b->128<=b.toNat:=by
  intro d hk hd;refine⟨hd,?_,fun j b h1 h2 hb=>?_⟩
  ·rcases Nat.lt_or_ge 1 d with h1 | h1
   ·have:=(hk (d-1) (by omega) (by omega)).1;omega
   omega
  obtain⟨k,rfl⟩:∃k,j=i+k:=⟨j-i,by omega⟩;rcases Nat.eq_zero_or_pos k with h0 | h0
  ·subst h0;have:=hat 0 b hb;rw[get_at s i h]at this;rw[<-this];exact ha
  rw[<-hat k b hb];exact cont k (hk k h0 (by omega)).2
 have one:1<=1/\i+1<=s.size/\∀j b,i<=j->j<i+1->s.data.toList[j]?=some b->128<=b.toNat:=key 1 (fun k h1 h2=>by omega) nat_le_rfl;have hn:¬(s[i]'h).toNat<128:=by omega
 unfold Utf8.decode;simp only[get_at s i h,hn,if_false];split
 ·rename_i hc;simp only[Bool.and_eq_true,beq_iff_eq,decide_eq_true_eq]at hc;split
  ·exact key 2 (fun k h1 h2 => by obtain rfl:k=1:=by omega
                                  exact hc.2) (by omega)
  exact one
 split
 ·rename_i hc;simp only[Bool.and_eq_true,beq_iff_eq,decide_eq_true_eq]at hc;split
  ·exact key 3 (fun k h1 h2=>by
    rcases(by omega:k=1\/k=2)with rfl | rfl
    ·exact hc.1.2
    exact hc.2) (by omega)
  exact one
 split
 ·rename_i hc;simp only[Bool.and_eq_true,beq_iff_eq,decide_eq_true_eq]at hc;split
  ·exact key 4 (fun k h1 h2=>by
    rcases(by omega:k=1\/k=2\/k=3)with rfl | rfl | rfl
    ·exact hc.1.1.2
    ·exact hc.1.2
    exact hc.2) (by omega)
  exact one
 exact one
theorem noAny_step{s:List UInt8}{i d:Nat}(h:Lib.NoAny s [43,35] i)(hk:∀j b,i<=j->j<i+d->s[j]?=some b->128<=b.toNat):Lib.NoAny s [43,35] (i+d):=fun j b hj hb=>by
 rcases Nat.lt_or_ge j i with h1 | h1
 ·exact h j b h1 hb
 have:=hk j b h1 hj hb;have h2:b≠43:=fun e=>by subst e;simp at this
 have h3:b≠35:=fun e=>by subst e;simp at this
 simp[h2,h3]
theorem idxAny_short(s:ByteArray)(w:World)(h8:s.size<=8):
  Calls prog 240 #[.string s,.string ⟨#[43,35]⟩] w fun e w'=>e=.returned (.int .i64 (Lib.indexAny s.data.toList [43,35]))/\Below w.heap.size w w':=by
 have h8z:decide ((8:Int)<(s.size:Int))=false:=decide_eq_false (by omega);have hsc:Hid (∀(n:Int)(w:World),Calls prog 281 #[.int .i64 n] w fun e w'=>e=.returned (.bool (decide (8<n)))/\w'=w):=hid fun n w=>Any.strings_shouldUseASCIISet {Tryz.lays153 with} n w;have IR:Hid (∀(r:Int)(w:World),0<=r->r<128->Calls prog 280 #[.string ⟨#[43,35]⟩,.int .i32 r] w fun e w'=>e=.returned (.int .i64 (Lib.indexByte [43,35] r.toNat.toUInt8))/\w'=w):=hid fun r w h0 h1=>Any.strings_IndexRune_ascii {Tryz.lays152 with} _ _ _ h0 h1;have IH:=hid idxRune_high;go_enter func240,ntmps240;go_wp2_with (go_at_call 281;refine(hsc _ _).mono ?_;rintro e w' ⟨rfl,hw⟩;rw[hw,h8z])
 go_loopg [9,10] s.size (fun g _ _ wx=>∃i:Nat,i+g=s.size/\Below w.heap.size w wx/\wx.heap[w.heap.size]?=some (.stringIter s i)/\Lib.NoAny s.data.toList [43,35] i)
 case atStart=>exact⟨0,by omega,bel_refl.alloc nat_le_rfl _,World.iter_heap _ _ _,Lib.NoAny.zero _ _⟩
 case round=>
  obtain⟨i,hig,hbx,hit,hno⟩:=hrel;have hbx:=hid hbx;have hno:=hid hno;have hit:=hid hit;cases gk with
  |zero=>
   obtain rfl:i=s.size:=by omega
   have hnx:=fun ty=>Lib.run_next_end_at (P:=prog) wr w.heap.size s s.size ty hit.out (Nat.lt_irrefl _);go_wp2;go_ret;exact⟨by rw[Lib.indexAny_none (by rw[<-Lib.size_eq];exact hno.out)];rfl,hbx.out⟩
  | succ g=>
   have hi:i<s.size:=by omega
   obtain⟨x,hx⟩:=gen_of (s[i]'hi:UInt8);have hxl:=hid (show s.data.toList[i]?=some x by rw[<-hx];exact Lib.data_getElem? s i hi);by_cases hx128:x.toNat<128
   ·have hnx:=fun ty=>Lib.run_next_ascii_at (P:=prog) wr w.heap.size s i ty hit.out hi (by rw[hx];exact hx128);rw[hx]at hnx;clear hx;have hcon:=Lib.contains_iff_indexByte [43,35] x;have hback:((x.toNat:Int)).toNat.toUInt8=x:=by simp
    cases hin:([43,35]:List UInt8).contains x with
    |false=>
     rw[hin]at hcon;have hlt:¬((0:Int)<=Lib.indexByte [43,35] x):=of_decide_eq_false hcon.symm;clear hcon;have hin:=hid hin;go_wp2_with (go_at_call 280;refine(IR _ _ (by omega) (by omega)).mono ?_;rintro e w' ⟨rfl,hw⟩;rw[hw,hback])
     go_roundg g
     case measure=>omega
     case rel=>exact⟨i+1,by omega,Lib.below_iterAt hbx.out nat_le_rfl _ _,Lib.iterAt_heap _ _ _ _ _ hit.out,hno.succ hxl.out hin.out⟩
    |true=>rw[hin]at hcon;have hge:(0:Int)<=Lib.indexByte [43,35] x:=of_decide_eq_true hcon.symm;clear hcon;have hin:=hid hin;go_wp2_with (go_at_call 280;refine(IR _ _ (by omega) (by omega)).mono ?_;rintro e w' ⟨rfl,hw⟩;rw[hw,hback]);go_ret;exact⟨by rw[Lib.indexAny_hit hno.out hxl.out hin.out];rfl,Lib.below_iterAt hbx.out nat_le_rfl _ _⟩
   have hnx:=fun ty=>Lib.run_next_any_at (P:=prog) wr w.heap.size s i ty hit.out hi;obtain⟨r,d,hd⟩:∃r d,Utf8.decode s i=(r,d):=⟨_,_,rfl⟩;have hh:=decode_high s i hi (by rw[hx];omega);rw[hd]at hnx hh;dsimp only at hnx hh;have hr:(128:Int)<=(r:Int):=by omega
   obtain⟨k1,k2,k3⟩:=decode_step s i hi (by rw[hx];omega);rw[hd]at k1 k2 k3;dsimp only at k1 k2 k3;have k3:=hid k3;have hd:=hid hd;clear hx;go_wp2_with (go_at_call 280;refine(IH _ _ (by omega)).mono ?_;rintro e w' ⟨rfl,hw⟩);have hlt:w.heap.size<wr.heap.size:=(Array.getElem?_eq_some_iff.1 hit.out).1;have hsz:=Lib.iterAt_size wr w.heap.size s (i+d)
   go_roundg (g+1-d)
   case measure=>omega
   case rel=>exact⟨i+d,by omega,(Lib.below_iterAt hbx.out nat_le_rfl _ _).trans (hw.mono (by omega)),(hw.block _ (by omega)).trans (Lib.iterAt_heap _ _ _ _ _ hit.out),noAny_step hno.out k3⟩
theorem anyOK(s:List UInt8)(hs:s.length<4294967281):AnyOK s:=fun w=>by
 have hsz:ByteArray.size ⟨s.toArray⟩=s.length:=by simp[ByteArray.size]
 have CI:Hid (Calls prog 240 #[.string ⟨s.toArray⟩,.string ⟨#[43,35]⟩] w fun e w'=>e=.returned (.int .i64 (Lib.indexAny s [43,35]))/\Below w.heap.size w w'):=hid <| by
  by_cases h8:s.length<=8
  ·exact idxAny_short ⟨s.toArray⟩ w (by omega)
  refine(Any.strings_IndexAny_long Tryz.lays153 (zero_of_info (v:=.agg (Array.replicate 256 (.bool false))) (n:=256) (by kernel_rfl)).1 (zero_of_info (v:=.agg (Array.replicate 256 (.bool false))) (n:=256) (by kernel_rfl)).2 ⟨s.toArray⟩ ⟨#[43,35]⟩ w (by decide) (by omega) (by omega) (by decide) (fun j b h=>?_)).mono fun e w' ⟨h1,h2⟩=>⟨h1,?_⟩
  ·rcases j with _ | _ | j<;>simp at h<;>subst h<;>decide
  rw[h2];exact(bel_refl.alloc nat_le_rfl _).alloc (by simp) _
 go_enter func192,ntmps192;go_wp2_with (go_at_call 240;refine CI.mono ?_;rintro e w' ⟨rfl,hw⟩)
 go_ret;exact⟨rfl,hw⟩
def sessMay(r:RowV):Bool:=clientR r.client&&(decide (0<=r.seq)&&decide (r.seq<=4611686018427387904))&&(decide (0<=r.id)&&decide (r.id<=4611686018427387904))
def sessHas(r:RowV):RowV:=⟨0,r.client,r.seq,r.id,[],[],0,false,0⟩
theorem kinds1(r:RowV)(w:World)(hc:r.client.length<=9223372036854775807):
  Calls prog 245 #[.agg r.vals] w fun e w'=>e=.returned (.bool (sessMay r))/\Below w.heap.size w w':=by
 obtain⟨kind,client,seq,id,topic,body,qos,retain,stage⟩:=r;simp only at hc;obtain⟨bc,hbc⟩:=gen_of (clientR client);obtain⟨bs,hbs⟩:=gen_of (decide (0<=seq)&&decide (seq<=4611686018427387904));obtain⟨bi,hbi⟩:=gen_of (decide (0<=id)&&decide (id<=4611686018427387904));have HP:=hid (show sessMay ⟨kind,client,seq,id,topic,body,qos,retain,stage⟩=(bc&&bs&&bi) by unfold sessMay;simp only;rw[hbc,hbs,hbi]);have CC:=fun w=>rec_client client w hc;rw[hbc]at CC;have HCC:=hid CC;have HCS:=hid (rec_within_b _ _ _ _ hbs);have HCI:=hid (rec_within_b _ _ _ _ hbi);clear CC hbc hbs hbi hc;unfold RowV.vals;have K:bc=false\/(bc=true/\bs=false)\/(bc=true/\bs=true/\bi=false)\/(bc=true/\bs=true/\bi=true):=by cases bc<;>cases bs<;>cases bi<;>simp
 rcases K with rfl | ⟨rfl,rfl⟩ | ⟨rfl,rfl,rfl⟩ | ⟨rfl,rfl,rfl⟩
 all_goals
  go_enter func245,ntmps245;go_wp2_with (first
   | (go_at_call 246;refine(HCC _).mono ?_;rintro e w1 ⟨rfl,hb⟩;have c2:=cellB hb (j:=2) rfl;have c3:=cellB hb (j:=3) rfl)
   | (go_at_call 247;refine(HCS _).mono ?_;rintro e w3 ⟨rfl,rfl⟩;clear HCS)
   | (go_at_call 247;refine(HCI _).mono ?_;rintro e w3 ⟨rfl,rfl⟩))
  go_ret;refine⟨by rw[HP.out];rfl,?_⟩;exact((Below.refl w.heap.size w).alloc nat_le_rfl _).trans (hb.mono (by simp))
theorem kinds2(r:RowV)(w:World):
  Calls prog 248 #[.agg r.vals] w fun e w'=>e=.returned (.agg (sessHas r).vals)/\Below w.heap.size w w':=by
 unfold RowV.vals sessHas;go_enter func248,ntmps248;go_wp2
 go_returns
 exact⟨rfl,((Below.refl w.heap.size w).alloc nat_le_rfl _).alloc (by simp) _⟩
theorem below_pop{w w1:World}{o:Obj}(h:Below (w.alloc o).heap.size (w.alloc o) w1):Below w.heap.size w w1:=((Below.refl _ w).alloc nat_le_rfl o).trans (h.mono (by simp))
theorem atR_gen{P:Program}{ops:Array Oper}{KQ:Exit->Act->World->Prop}{facts:List Fact}{taken:List Nat}{a:Act}{w:World}(C:World->Prop)(hC:C w)(h:∀w',C w'->atR P ops KQ facts taken a w'):atR P ops KQ facts taken a w:=h w hC
theorem frozenB{w w1:World}{cs:Array Value}{T:Nat}(hb:Below (w.alloc (.cells cs T)).heap.size (w.alloc (.cells cs T)) w1)(j:Nat):w1.frozen? ⟨w.heap.size,j,none⟩=false:=by rw[hb.frozen (by simp)];simp
theorem undrew{w w1:World}(h:Below w.drew.heap.size w.drew w1):Below w.heap.size w w1:=⟨h.os,h.tape,h.output,h.size,h.block⟩
section
structure InAt (w:World)(b s:Nat)(most:Int):Prop where
 set:w.cell? ⟨b,0,none⟩=some (.pointer (some ⟨s,0,none⟩))
 most:w.cell? ⟨b,1,none⟩=some (.int .i64 most)
def Blk(w:World)(b:Nat)(cs:Array Value)(T:TypeId):Prop:=w.heap[b]?=some (.cells cs T (0,0))
section
variable {w:World} {b:Nat} {cs:Array Value} {T:TypeId}
theorem Blk.lt(h:Blk w b cs T):b<w.heap.size:=(Array.getElem?_eq_some_iff.1 h).1
theorem Blk.cell(h:Blk w b cs T)(j:Nat):w.cell? ⟨b,j,none⟩=cs[j]?:=by unfold Blk at h;simp[World.cell?,h]
theorem Blk.keep{w':World}(h:Blk w b cs T)(hk:w'.heap[b]?=w.heap[b]?):Blk w' b cs T:=hk.trans h
theorem Blk.alloc(h:Blk w b cs T)(o:Obj):Blk (w.alloc o) b cs T:=h.keep (Below.heap_alloc _ _ _ h.lt)
theorem Blk.drew(h:Blk w b cs T):Blk w.drew b cs T:=h
theorem Blk.new(w:World)(cs:Array Value)(T:TypeId):Blk (w.alloc (.cells cs T)) w.heap.size cs T:=World.alloc_heap_new w _
theorem Blk.set(h:Blk w b cs T)(j:Nat)(v:Value):Blk (w.setCell ⟨b,j,none⟩ v) b (cs.setIfInBounds j v) T:=by have:=h.lt;unfold Blk at h ⊢;simp[World.setCell,Array.getElem?_modify,h]
theorem Blk.wrote{M:List Nat}{w':World}(h:Blk w b cs T)(hw:Wrote M w w')(hb:b∉M):Blk w' b cs T:=h.keep (hw.block b h.lt hb)
theorem Blk.below{w':World}(h:Blk w b cs T)(hw:Below w.heap.size w w'):Blk w' b cs T:=h.keep (hw.block b h.lt)
theorem Blk.ne{b':Nat}{cs':Array Value}{T':TypeId}(h:Blk w b cs T)(h':Blk w b' cs' T')(ht:T≠T'):b≠b':=by intro e;subst e;unfold Blk at h h';rw[h]at h';cases h';exact ht rfl
end
structure Inb (w:World)(b s:Nat)(most:Int)(W:Nat->Nat):Prop where
 box:Blk w b #[.pointer (some ⟨s,0,none⟩),.int .i64 most] 308
 set:Blk w s (setCells W) 306
theorem Inb.at{w:World}{b s:Nat}{most:Int}{W:Nat->Nat}(h:Inb w b s most W):InAt w b s most:=⟨(h.box.cell 0).trans rfl,(h.box.cell 1).trans rfl⟩
theorem Inb.wrote{w w':World}{b s:Nat}{most:Int}{W:Nat->Nat}(h:Inb w b s most W){M:List Nat}(hw:Wrote M w w')(hb:b∉M)(hs:s∉M):Inb w' b s most W:=⟨h.box.wrote hw hb,h.set.wrote hw hs⟩
theorem in_New(most:Int)(w:World)(h1:1<=most)(h2:most<=1000):
  Calls prog 226 #[.int .i64 most] w fun e w'=>e=.returned (.tuple #[.pointer (some ⟨w.heap.size+1,0,none⟩),.int .i64 0])/\Inb w' (w.heap.size+1) w.heap.size most (fun _=>0)/\Below w.heap.size w w':=by
 have d1:decide (most<1)=false:=decide_eq_false (by omega);have d2:decide (most>1000)=false:=decide_eq_false (by omega);go_enter func226,ntmps226;go_wp2
 go_returns
 have hz:Tryz.zeroCells306=setCells (fun _=>0):=by rw[setCells_zero];kernel_rfl
 rw[hz];exact⟨rfl,⟨by simpa using Blk.new (w.alloc _) _ _,(Blk.new w _ _).alloc _⟩,((Below.refl _ w).alloc nat_le_rfl _).alloc (by simp) _⟩
end
theorem rec_Check_sess(client:List UInt8)(seq id:Int)(w:World)(hc:client.length<=9223372036854775807):
  Calls prog 169 #[.agg (RowV.mk 1 client seq id [] [] 0 false 0).vals] w fun e w'=>e=.returned (.int .i64 (if sessMay ⟨1,client,seq,id,[],[],0,false,0⟩then 0 else 2))/\Below w.heap.size w w':=by
 have C7:=hid fun w=>kinds1 ⟨1,client,seq,id,[],[],0,false,0⟩ w hc;have C8:=hid fun w=>kinds2 ⟨1,client,seq,id,[],[],0,false,0⟩ w;have CK:=hid rec_kinds;clear hc;obtain⟨bm,hbm⟩:=gen_of (sessMay ⟨1,client,seq,id,[],[],0,false,0⟩);rw[hbm]at C7 ⊢;clear hbm;unfold sessHas at C8;unfold RowV.vals at*
 go_enter func169,ntmps169;go_wp2;refine regionQ [(1000,fun w'=>w'.cell? ⟨w.heap.size,0,none⟩=some (.int .i64 1))] (by kernel_rfl) ⟨by go_simp,trivial⟩ fun KQ hKQ=>?_;refine tQ [1] ?_;refine lQ 2 0 ?_;refine stepQ2 0 7 rfl rfl (by kernel_rfl) (by decide) (by kernel_rfl) (by kernel_rfl) (fun K hK=>?_) (fun K hK=>?_)
 ·try simp only[GO]
  go_simp;refine(CK _).mono ?_;rintro e w1 ⟨rfl,hm,hb⟩;replace hb:=undrew hb;replace hm:w1.heap[w.heap.size+1]?=some (.map kindsE 5):=by simpa using hm
  have hlt:w.heap.size+1<w1.heap.size:=by
   rcases Nat.lt_or_ge (w.heap.size+1) w1.heap.size with h | h
   ·exact h
   rw[Array.getElem?_eq_none h]at hm;cases hm
  have hm':∀o,(w1.alloc o).heap[w.heap.size+1]?=some (.map kindsE 5):=fun o=>(Below.heap_alloc _ _ _ hlt).trans hm;have HL':=fun o=>run_lookup_at (P:=prog) 262 133 260 .i64 underlying262 underlying133 _ _ kindsE 5 (hm' o) 1 _ 0 rfl true;have HL:=run_lookup_at (P:=prog) 262 133 260 .i64 underlying262 underlying133 _ _ kindsE 5 hm 1 _ 0 rfl true;simp only[kindV]at HL HL';refine hK _ _ ⟨⟨fun _=>cellB hb (j:=0) rfl,trivial⟩,?_⟩;clear hK K;refine stepQ2 3 7 rfl rfl (by kernel_rfl) (by decide) (by kernel_rfl) (by kernel_rfl) (fun K hK=>?_) (fun K hK=>?_)
  ·try simp only[GO]
   go_simp;refine hK _ _ ⟨⟨fun _=>cellB hb (j:=0) rfl,trivial⟩,?_⟩;clear hK K;refine tQ [4,5,6] ?_;refine sQ 7 fun K hK=>?_;simp only[GO];go_simp;refine hK _ _ ⟨⟨fun _=>cellB (hb.alloc hb.size _) (j:=0) rfl,trivial⟩,?_⟩;clear hK K;refine sQ 8 fun K hK=>?_;simp only[GO];go_simp;refine hK _ _ ⟨⟨fun _=>cellB (hb.alloc hb.size _) (j:=0) rfl,trivial⟩,?_⟩;clear hK K;refine sQ 9 fun K hK=>?_;simp only[GO];go_simp;refine hK _ _ ⟨⟨fun _=>cellB (hb.alloc hb.size _) (j:=0) rfl,trivial⟩,?_⟩;clear hK K;refine dQ (hKQ.out _ _ ?_);clear hKQ KQ;have g0:=cB hb 0 rfl;have g1:=cB hb 1 rfl;have g2:=cB hb 2 rfl;have g3:=cB hb 3 rfl;have g4:=cB hb 4 rfl;have g5:=cB hb 5 rfl;have g6:=cB hb 6 rfl;have g7:=cB hb 7 rfl;have g8:=cB hb 8 rfl;cases bm
   ·go_wp2_with (go_at_call 245;refine(C7 _).mono ?_;rintro e w2 ⟨rfl,hb2⟩;replace hb2:=(hb.alloc hb.size _).trans (hb2.mono (hb.alloc hb.size _).size))
    go_ret;exact⟨rfl,((Below.refl w.heap.size w).alloc nat_le_rfl _).trans (hb2.mono (by simp))⟩
   go_wp2_with (first
    | (go_at_call 245;refine(C7 _).mono ?_;rintro e w2 ⟨rfl,hb2⟩;have f2:=cellB (w:=w1) hb2 (j:=2) rfl;replace hb2:=(hb.alloc hb.size _).trans (hb2.mono (hb.alloc hb.size _).size)
       have g0:=cellB hb2 (j:=0) rfl;have g1:=cellB hb2 (j:=1) rfl;have g2:=cellB hb2 (j:=2) rfl;have g3:=cellB hb2 (j:=3) rfl;have g4:=cellB hb2 (j:=4) rfl;have g5:=cellB hb2 (j:=5) rfl;have g6:=cellB hb2 (j:=6) rfl;have g7:=cellB hb2 (j:=7) rfl;have g8:=cellB hb2 (j:=8) rfl
     )
    | (go_at_call 248;refine(C8 _).mono ?_;rintro e w3 ⟨rfl,hb3⟩;replace hb3:=hb2.trans (hb3.mono hb2.size)
       have g0:=cB hb3 0 rfl;have g1:=cB hb3 1 rfl;have g2:=cB hb3 2 rfl;have g3:=cB hb3 3 rfl;have g4:=cB hb3 4 rfl;have g5:=cB hb3 5 rfl;have g6:=cB hb3 6 rfl;have g7:=cB hb3 7 rfl;have g8:=cB hb3 8 rfl
     ))
   go_ret;exact⟨rfl,(((Below.refl w.heap.size w).alloc nat_le_rfl _).trans (hb3.mono (by simp))).alloc (by have:=hb3.size;simp at this;omega) _⟩
  try simp only[GO]
  go_simp;refine hK _ _ ⟨⟨fun _=>cellB (hb.alloc hb.size _) (j:=0) rfl,trivial⟩,?_⟩;clear hK K;refine sQ 3 fun K hK=>?_;simp only[GO];go_simp;refine hK _ _ ⟨⟨fun _=>cellB (hb.alloc hb.size _) (j:=0) rfl,trivial⟩,?_⟩;clear hK K;refine tQ [4,5,6] ?_;refine sQ 8 fun K hK=>?_;simp only[GO];go_simp;refine hK _ _ ⟨⟨fun _=>cellB (hb.alloc hb.size _) (j:=0) rfl,trivial⟩,?_⟩;clear hK K;refine sQ 9 fun K hK=>?_;simp only[GO];go_simp;refine hK _ _ ⟨⟨fun _=>cellB (hb.alloc hb.size _) (j:=0) rfl,trivial⟩,?_⟩;clear hK K;refine dQ (hKQ.out _ _ ?_);clear hKQ KQ;have g0:=cB hb 0 rfl;have g1:=cB hb 1 rfl;have g2:=cB hb 2 rfl;have g3:=cB hb 3 rfl;have g4:=cB hb 4 rfl;have g5:=cB hb 5 rfl;have g6:=cB hb 6 rfl;have g7:=cB hb 7 rfl;have g8:=cB hb 8 rfl;cases bm
  ·go_wp2_with (go_at_call 245;refine(C7 _).mono ?_;rintro e w2 ⟨rfl,hb2⟩;replace hb2:=(hb.alloc hb.size _).trans (hb2.mono (hb.alloc hb.size _).size))
   go_ret;exact⟨rfl,((Below.refl w.heap.size w).alloc nat_le_rfl _).trans (hb2.mono (by simp))⟩
  go_wp2_with (first
   | (go_at_call 245;refine(C7 _).mono ?_;rintro e w2 ⟨rfl,hb2⟩;have f2:=cellB (w:=w1) hb2 (j:=2) rfl;replace hb2:=(hb.alloc hb.size _).trans (hb2.mono (hb.alloc hb.size _).size)
      have g0:=cellB hb2 (j:=0) rfl;have g1:=cellB hb2 (j:=1) rfl;have g2:=cellB hb2 (j:=2) rfl;have g3:=cellB hb2 (j:=3) rfl;have g4:=cellB hb2 (j:=4) rfl;have g5:=cellB hb2 (j:=5) rfl;have g6:=cellB hb2 (j:=6) rfl;have g7:=cellB hb2 (j:=7) rfl;have g8:=cellB hb2 (j:=8) rfl
    )
   | (go_at_call 248;refine(C8 _).mono ?_;rintro e w3 ⟨rfl,hb3⟩;replace hb3:=hb2.trans (hb3.mono hb2.size)
      have g0:=cB hb3 0 rfl;have g1:=cB hb3 1 rfl;have g2:=cB hb3 2 rfl;have g3:=cB hb3 3 rfl;have g4:=cB hb3 4 rfl;have g5:=cB hb3 5 rfl;have g6:=cB hb3 6 rfl;have g7:=cB hb3 7 rfl;have g8:=cB hb3 8 rfl
    ))
  go_ret;exact⟨rfl,(((Below.refl w.heap.size w).alloc nat_le_rfl _).trans (hb3.mono (by simp))).alloc (by have:=hb3.size;simp at this;omega) _⟩
 try simp only[GO]
 go_simp;refine hK _ _ ⟨⟨fun _=>by go_simp,trivial⟩,?_⟩;clear hK K;refine sQ 0 fun K hK=>?_;simp only[GO];go_simp;refine(CK _).mono ?_;rintro e w1 ⟨rfl,hm,hb⟩;replace hb:=undrew hb;have hbr:=below_pop hb;have k0:=cellB hb (j:=0) rfl;have k1:=cellB hb (j:=1) rfl;have k2:=cellB hb (j:=2) rfl;have k3:=cellB hb (j:=3) rfl;have k4:=cellB hb (j:=4) rfl;replace hm:w1.heap[w.heap.size+2]?=some (.map kindsE 5):=by simpa using hm
 have HL:=run_lookup_at (P:=prog) 262 133 260 .i64 underlying262 underlying133 _ _ kindsE 5 hm 1 _ 0 rfl true;simp only[kindV]at HL;refine hK _ _ ⟨⟨fun _=>cellB hbr (j:=0) rfl,trivial⟩,?_⟩;clear hK K;refine sQ 3 fun K hK=>?_;simp only[GO];go_simp;refine hK _ _ ⟨⟨fun _=>cellB hbr (j:=0) rfl,trivial⟩,?_⟩;clear hK K;refine tQ [4,5,6] ?_;refine sQ 8 fun K hK=>?_;simp only[GO];have z0:=frozenB hb 0;have z1:=frozenB hb 1;have z2:=frozenB hb 2;have z3:=frozenB hb 3;have z4:=frozenB hb 4;simp only[World.size_alloc]at k0 k1 k2 k3 k4 z0 z1 z2 z3 z4;go_simp;have hbs:=fun v0 v1 v2 v3 v4=>(((((hbr.setCell (p:=⟨w.heap.size+1,0,none⟩) (by simp) v0).setCell (p:=⟨w.heap.size+1,1,none⟩) (by simp) v1).setCell (p:=⟨w.heap.size+1,2,none⟩) (by simp) v2).setCell (p:=⟨w.heap.size+1,3,none⟩) (by simp) v3).setCell (p:=⟨w.heap.size+1,4,none⟩) (by simp) v4);refine hK _ _ ⟨⟨fun _=>cellB (hbs _ _ _ _ _) (j:=0) rfl,trivial⟩,?_⟩
 clear hK K;refine atR_gen (fun w'=>Below (w.alloc (.cells #[.int .i64 1,.string ⟨client.toArray⟩,.int .i64 seq,.int .i64 id,.string ⟨#[]⟩,.string ⟨#[]⟩,.int .i64 0,.bool false,.int .i64 0] 136)).heap.size (w.alloc (.cells #[.int .i64 1,.string ⟨client.toArray⟩,.int .i64 seq,.int .i64 id,.string ⟨#[]⟩,.string ⟨#[]⟩,.int .i64 0,.bool false,.int .i64 0] 136)) w'/\w'.cell? ⟨w.heap.size+1,1,none⟩=some (.func (.func 245) #[] #[])/\w'.cell? ⟨w.heap.size+1,2,none⟩=some (.func (.func 248) #[] #[])/\w.heap.size+1<w'.heap.size) ⟨hbs _ _ _ _ _,by go_simp,by go_simp,by have:=hb.size;simp at this ⊢;omega⟩ fun w2 ⟨hb,f1,f2,hlt⟩=>?_;refine sQ 9 fun K hK=>?_;simp only[GO];go_simp;refine hK _ _ ⟨⟨fun _=>cellB hb (j:=0) rfl,trivial⟩,?_⟩;clear hK K;refine dQ (hKQ.out _ _ ?_);clear hKQ KQ;have g0:=cellB hb (j:=0) rfl;have g1:=cellB hb (j:=1) rfl;have g2:=cellB hb (j:=2) rfl;have g3:=cellB hb (j:=3) rfl;have g4:=cellB hb (j:=4) rfl;have g5:=cellB hb (j:=5) rfl;have g6:=cellB hb (j:=6) rfl;have g7:=cellB hb (j:=7) rfl;have g8:=cellB hb (j:=8) rfl;cases bm
 ·go_wp2_with (go_at_call 245;refine(C7 _).mono ?_;rintro e w3 ⟨rfl,hb2⟩;replace hb2:=hb.trans (hb2.mono hb.size))
  go_ret;exact⟨rfl,below_pop hb2⟩
 go_wp2_with (first
  | (go_at_call 245;refine(C7 _).mono ?_;rintro e w3 ⟨rfl,hb3⟩;have f3:=(hb3.cell (p:=⟨w.heap.size+1,2,none⟩) hlt).trans f2;replace hb3:=hb.trans (hb3.mono hb.size)
     have g0:=cellB hb3 (j:=0) rfl;have g1:=cellB hb3 (j:=1) rfl;have g2:=cellB hb3 (j:=2) rfl;have g3:=cellB hb3 (j:=3) rfl;have g4:=cellB hb3 (j:=4) rfl;have g5:=cellB hb3 (j:=5) rfl;have g6:=cellB hb3 (j:=6) rfl;have g7:=cellB hb3 (j:=7) rfl;have g8:=cellB hb3 (j:=8) rfl
   )
  | (go_at_call 248;refine(C8 _).mono ?_;rintro e w4 ⟨rfl,hb4⟩;replace hb4:=hb3.trans (hb4.mono hb3.size)
     have g0:=cB hb4 0 rfl;have g1:=cB hb4 1 rfl;have g2:=cB hb4 2 rfl;have g3:=cB hb4 3 rfl;have g4:=cB hb4 4 rfl;have g5:=cB hb4 5 rfl;have g6:=cB hb4 6 rfl;have g7:=cB hb4 7 rfl;have g8:=cB hb4 8 rfl
   ))
 go_ret;exact⟨rfl,((below_pop hb4).alloc (by have:=(below_pop hb4).size;omega) _)⟩
def TzAt(w:World):Prop:=TabAt 1 Lib.deBruijn64tab w
theorem TzAt.keep{w w':World}(h:TzAt w)(hk:∀p v,p.block=1->w.cell? p=some v->w'.cell? p=some v):TzAt w':=fun j hj=>hk _ _ rfl (h j hj)
def stageOK(r:RowV):Prop:=r.stage=1/\r.id=0\/(1<=r.id/\r.id<=65535)/\(r.stage=2\/r.stage=3/\r.qos=2)
section
attribute [local go_sem] Oper.semAt_some
theorem TzAt.block{w w':World}(h:TzAt w)(hk:w'.heap[1]?=w.heap[1]?):TzAt w':=by refine h.keep fun p v hp hc=>?_;unfold World.cell? at hc ⊢;rw[hp]at hc ⊢;rw[hk];exact hc
theorem TzAt.lt{w:World}(h:TzAt w):1<w.heap.size:=cell_lt (p:=⟨1,0,none⟩) (h 0 (by decide))
theorem TzAt.below{w w':World}(h:TzAt w)(hb:Below w.heap.size w w'):TzAt w':=h.block (hb.block _ h.lt)
theorem TzAt.wrote{M:List Nat}{w w':World}(h:TzAt w)(hb:Wrote M w w')(hM:1∉M):TzAt w':=h.block (hb.block _ h.lt hM)
theorem Inb.below{w w':World}{b s:Nat}{most:Int}{W:Nat->Nat}(h:Inb w b s most W)(hb:Below w.heap.size w w'):Inb w' b s most W:=⟨h.box.below hb,h.set.below hb⟩
end
section
/-! ### Words on memory,no program in sight -/
structure WT (T:TypeId)(w w':World):Prop where
 size:w.heap.size<=w'.heap.size
 block:∀k,k<w.heap.size->(∀cs f,w.heap[k]?≠some (.cells cs T f))->w'.heap[k]?=w.heap[k]?
theorem WT.of_below{T:TypeId}{w w':World}(h:Below w.heap.size w w'):WT T w w':=⟨h.size,fun k hk _=>h.block k hk⟩
theorem WT.set{T:TypeId}{w:World}{b:Nat}{cs:Array Value}(h:Blk w b cs T)(j:Nat)(v:Value):WT T w (w.setCell ⟨b,j,none⟩ v):=
 ⟨by simp[World.setCell],fun k _ hn=>Below.heap_setCell _ _ _ _ (fun e=>hn cs (0,0) (by rw[e];exact h))⟩
theorem WT.row{base:Nat}{e:TypeId}{size:Nat}{v:Value}{n:Nat}{xs:List Value}{w w':World}(h:w.ownsRow base e size v n xs)(hg:w.grownBy w' v.ownBlock):WT e w w':=
 ⟨hg.size,fun k hk hn=>hg.block k hk (fun he=>by
  obtain⟨_,⟨rfl,_⟩ | ⟨g,cap,cur,rfl,_,hh,_⟩⟩:=h
  ·simp[Value.ownBlock]at he
  simp only[Value.ownBlock,Option.some.injEq]at he;exact hn cur (0,0) (by rw[he];exact hh))⟩
def blk(v:Value):List Nat:=v.ownBlock.toList
theorem mem_blk{v:Value}{k:Nat}:k∈blk v↔v.ownBlock=some k:=by simp[blk]
structure Stp (F F':List Nat)(w w':World):Prop where
 wrote:Wrote F w w'
 sub:∀x∈F',x∈F\/w.heap.size<=x
theorem Stp.refl(F:List Nat)(w:World):Stp F F w w:=⟨Wrote.refl _ _,fun _ h=>.inl h⟩
theorem Stp.trans{F F' F'':List Nat}{a b c:World}(h:Stp F F' a b)(k:Stp F' F'' b c):Stp F F'' a c:=
 ⟨⟨k.wrote.os.trans h.wrote.os,k.wrote.tape.trans h.wrote.tape,k.wrote.output.trans h.wrote.output,Nat.le_trans h.wrote.size k.wrote.size,fun i hi hm=>(k.wrote.block i (Nat.lt_of_lt_of_le hi h.wrote.size) (fun hx=>(h.sub i hx).elim hm (fun hg=>by omega))).trans (h.wrote.block i hi hm)⟩,
 fun x hx=>(k.sub x hx).elim (h.sub x) (fun hg=>.inr (Nat.le_trans h.wrote.size hg))⟩
theorem Stp.below{F:List Nat}{a b:World}(h:Below a.heap.size a b):Stp F F a b:=⟨Wrote.of_below h,fun _ h=>.inl h⟩
theorem Stp.size{F F':List Nat}{a b:World}(h:Stp F F' a b):a.heap.size<=b.heap.size:=h.wrote.size
theorem Stp.not{F F':List Nat}{a b:World}(h:Stp F F' a b){x:Nat}(hx:x∉F)(hl:x<a.heap.size):x∉F':=fun hm=>(h.sub x hm).elim hx (fun hg=>by omega)
section
variable {P:Program} {w:World} {t e:TypeId} {z:Value} {size bytes:Nat}
theorem run_append2(ty:TypeId)(E:ElemT P t e z size bytes)(hsz:0<size)(base:Nat)(v:Value)(n:Nat)(xs:List Value)(hown:w.ownsRow base e size v n xs)
  (a:Addr) (news:List Value) (hl:news.length=size) (hnews:∀j u,news[j]?=some u->w.cell? (a.add j)=some u) (h1:∀u∈news,u.oneCell'=true)
  (h63:n<100000000) (hbytes:(n+1)*bytes<=140737488355328) (hbase:base<=w.heap.size):
  ∃v' w',(Builtin.append_ #[t,t] ty #[v,.slice (some a) 1 1]).run P w=.ok v' w'/\w'.ownsRow base e size v' (n+1) (xs++news)/\w.grownBy w' v.ownBlock/\(∀k,v'.ownBlock=some k->v.ownBlock=some k\/w.heap.size<=k):=by
 obtain⟨i,hi,hz0,hz1,hz2⟩:=info_parts E.info;have hl':news.length=1*size:=by omega
 have hm:n+1<=maxLen:=by unfold maxLen;omega
 obtain⟨v',w',hr,h2,h3,_⟩:=run_append_own (P:=P) w base t ty e i z size bytes E.ht hi hz0 hz1 hz2 E.hzs hsz v n xs hown a 1 1 news hl' hnews h1 hm hbytes hbase;refine⟨v',w',hr,h2,h3,fun k hk=>?_⟩;have hl2:news.length=1*i.size:=by rw[hz1];exact hl'
 rcases hown.2 with⟨rfl,rfl⟩ | ⟨g,cap,cur,rfl,hbg,hg,hnc,hcm,hcs,htake⟩
 ·have hr2:=run_append_nil (P:=P) w t ty e i z E.ht hi hz0 a 1 1 news hl2 hnews (by omega) (by omega) (by rw[hz2];simp at hbytes;omega);rw[hr]at hr2;cases hr2;simp[Value.ownBlock]at hk;exact .inr (by omega)
 by_cases hroom:n+1<=cap
 ·have hfit:n*i.size+news.length<=cur.size:=by rw[hl',hcs,hz1,<-Nat.add_mul];exact Nat.mul_le_mul_right _ hroom
  have hr2:=run_append_room (P:=P) w t ty e i E.ht hi g n cap cur hg a 1 1 news hl2 hnews h1 hroom hfit;rw[hr]at hr2;cases hr2;exact .inl hk
 have holds:∀j u,xs[j]?=some u->w.cell? ((⟨g,0,none⟩:Addr).add j)=some u:=hown.cells (g:=g) rfl;have hr2:=run_append_grow (P:=P) w t ty e i z E.ht hi hz0 ⟨g,0,none⟩ n cap xs (by rw[hz1];exact hown.1) holds a 1 1 news hl2 hnews (by omega) (by unfold maxLen at hm;omega) (growslice_fits (by omega) (by rw[hz2];exact hbytes));rw[hr]at hr2;cases hr2;simp[Value.ownBlock]at hk;exact .inr (by omega)
theorem append_grp{ops:Array Oper}{rest:List Oper}{o:Oper}{a:Act}{Q:Exit->Act->World->Prop}(hgd:o.guard=none)(s x:Operand)
  (ho:o.op=.call {callee:=.builtin .append,args:=#[s,x],argTypes:=#[t,t]}) (E:ElemT P t e z size bytes) (hsz:0<size)
  (base:Nat) (v:Value) (n:Nat) (xs:List Value) (hs:a.eval s=v) (hown:w.ownsRow base e size v n xs) (g:Nat) (news:List Value) (T:TypeId) (hx:a.eval x=.slice (some ⟨g,0,none⟩) 1 1) (hg:Blk w g news.toArray T) (hl:news.length=size) (h1:∀u∈news,u.oneCell'=true)
  (h63:n<100000000) (hbytes:(n+1)*bytes<=140737488355328) (hbase:base<=w.heap.size)
  (h:∀v' w',w'.ownsRow base e size v' (n+1) (xs++news)->w.grownBy w' v.ownBlock->(∀k,v'.ownBlock=some k->v.ownBlock=some k\/w.heap.size<=k)->wpList P ops Q rest (a.put o.dst v') w'):wpList P ops Q (o::rest) a w:=by
 refine wpList_plain hgd fun K hK=>?_;obtain⟨v',w',hr,h2,h3,h4⟩:=run_append2 (P:=P) (w:=w) o.type E hsz base v n xs hown ⟨g,0,none⟩ news hl (fun j u hj=>by
  have:=hg.cell j;simp only[List.getElem?_toArray]at this;rw[hj]at this;by_cases h0:j=0
  ·subst h0;simpa[Addr.add]using this
  simpa[Addr.add,h0]using this) h1 h63 hbytes hbase
 unfold Oper.wp execOp;simp only[ho,resolve,invoke,builtin,Sem.run_bind,Sem.run_pure,Result.andThen_ok,List.map_toArray,List.map_cons,List.map_nil,hs,hx,hr];exact hK _ _ (h v' w' h2 h3 h4)
end
/-! ### An outbox -/
structure PackV where
 kind:Int
 dup:Bool
 retain:Bool
 qos:Int
 topic:List UInt8
 body:List UInt8
 id:Int
def PackV.cells(p:PackV):List Value:=[.int .i64 p.kind,.bool p.dup,.bool p.retain,.int .i64 p.qos,.string ⟨p.topic.toArray⟩,.string ⟨p.body.toArray⟩,.int .i64 p.id,.string ⟨#[]⟩,.bool false,.int .i64 0,.bool false,
 .string ⟨#[]⟩,.string ⟨#[]⟩,.int .i64 0,.bool false,.bool false,.bool false,.string ⟨#[]⟩,.string ⟨#[]⟩,.bool false,.int .i64 0,.slice none 0 0,.slice none 0 0,.slice none 0 0]
structure ChangeV where
 drop:Bool
 row:RowV
def ChangeV.cells(c:ChangeV):List Value:=.bool c.drop::c.row.vals.toList
structure OS where
 client:List UInt8
 window:Int
 room:Int
 seq:Int
 id:Int
 l:List RowV
def idsOf(l:List RowV):List Nat:=(l.filter fun r=>decide (r.stage≠1)).map fun r=>r.id.toNat
structure OS.OK (s:OS):Prop where
 win:1<=s.window/\s.window<=100
 room:s.room<=1000/\(s.l.length:Int)<=s.room
 seq:0<=s.seq/\s.seq<=4611686018427387905
 id:1<=s.id/\s.id<=65535
 cl:s.client.length<=23
 ids:∀r∈s.l,r.stage≠1->1<=r.id/\r.id<=65535
 nodup:(idsOf s.l).Nodup
 under:((idsOf s.l).length:Int)<=s.window
structure Lay where
 p:Nat
 ib:Nat
 sb:Nat
 vl:Value
 vp:Value
 vc:Value
 rb:List Nat
 W:Nat->Nat
def Lay.foot(L:Lay):List Nat:=L.p::L.ib::L.sb::(blk L.vl++blk L.vp++blk L.vc++L.rb)
def ptrs(rb:List Nat):List Value:=rb.map fun b=>.pointer (some ⟨b,0,none⟩)
def boxCells(L:Lay)(s:OS):Array Value:=#[.pointer (some ⟨L.ib,0,none⟩),.string ⟨s.client.toArray⟩,.int .i64 s.window,.int .i64 s.room,.int .i64 s.seq,.int .i64 s.id,L.vl,L.vp,L.vc]
structure OB (w:World)(B:Nat)(L:Lay)(s:OS)(ps:List PackV)(cs:List ChangeV):Prop where
 base:B<=w.heap.size
 box:Blk w L.p (boxCells L s) 313
 inb:Inb w L.ib L.sb 100 L.W
 set:SetIs L.W (idsOf s.l)
 rows:w.ownsRow 0 314 1 L.vl s.l.length (ptrs L.rb)
 len:L.rb.length=s.l.length
 cells:∀(i b:Nat)(r:RowV),L.rb[i]?=some b->s.l[i]?=some r->Blk w b r.vals 136
 nodup:L.rb.Nodup
 packs:w.ownsRow B 52 24 L.vp ps.length (ps.flatMap PackV.cells)
 chgs:w.ownsRow B 430 10 L.vc cs.length (cs.flatMap ChangeV.cells)
 tz:TzAt w
 gg:1∉L.foot
 ok:s.OK
theorem OB.below{w w':World}{B:Nat}{L:Lay}{s:OS}{ps:List PackV}{cs:List ChangeV}(h:OB w B L s ps cs)(hb:Below w.heap.size w w'):OB w' B L s ps cs:=
 ⟨Nat.le_trans h.base hb.size,h.box.below hb,h.inb.below hb,h.set,ownsRow_below h.rows hb,h.len,fun i b r h1 h2=>(h.cells i b r h1 h2).below hb,h.nodup,ownsRow_below h.packs hb,ownsRow_below h.chgs hb,h.tz.below hb,h.gg,h.ok⟩
theorem blk_lt{w:World}{base:Nat}{e:TypeId}{size:Nat}{v:Value}{n:Nat}{xs:List Value}(h:w.ownsRow base e size v n xs){x:Nat}(hx:x∈blk v):x<w.heap.size:=(h.lt x (mem_blk.1 hx)).2
theorem OB.lt{w:World}{B:Nat}{L:Lay}{s:OS}{ps:List PackV}{cs:List ChangeV}(h:OB w B L s ps cs):∀x∈L.foot,x<w.heap.size:=by
 intro x hx;simp only[Lay.foot,List.mem_cons,List.mem_append]at hx;rcases hx with rfl | rfl | rfl | ((hx | hx) | hx) | hx
 ·exact h.box.lt
 ·exact h.inb.box.lt
 ·exact h.inb.set.lt
 ·exact blk_lt h.rows hx
 ·exact blk_lt h.packs hx
 ·exact blk_lt h.chgs hx
 obtain⟨i,hi⟩:=List.getElem?_of_mem hx;have hlt:=(List.getElem?_eq_some_iff.1 hi).1;rw[h.len]at hlt;exact(h.cells i x _ hi (List.getElem?_eq_getElem hlt)).lt
end
section
attribute [local go_sem] Oper.semAt_some
def levelsB(s:List UInt8):List ByteArray:=Lib.splitB ⟨#[47]⟩ 0 (Lib.countB ⟨s.toArray⟩ ⟨#[47]⟩) ⟨s.toArray⟩
theorem str_Split(s:List UInt8)(w:World)(hs:s.length<4294967281):
  Calls prog 239 #[.string ⟨s.toArray⟩,.string ⟨#[47]⟩] w fun e w'=>e=.returned (.slice (some ⟨w.heap.size,0,none⟩) (levelsB s).length (levelsB s).length)/\w'=w.alloc (.cells ((levelsB s).map Value.string).toArray 9):=by
 have hs':ByteArray.size ⟨s.toArray⟩<4294967281:=by simpa[ByteArray.size]using hs
 have hone:1<=ByteArray.size ⟨#[47]⟩:=by decide
 have hle:=Lib.countB_le ⟨#[47]⟩ hone _ ⟨s.toArray⟩ nat_le_rfl;have hlen:=Lib.splitB_all ⟨#[47]⟩ hone 0 _ ⟨s.toArray⟩ rfl;have c:=Any.strings_genSplit_core Tryz.lays221 (by kernel_rfl) ⟨s.toArray⟩ ⟨#[47]⟩ 0 (-1) (Lib.countB ⟨s.toArray⟩ ⟨#[47]⟩+1) w hs' hone (Nat.zero_le _)
  (fun x cs hx=>(Tryz.strings_Index_one x 47 _).mono fun e w' ⟨he,hw⟩=>⟨by rw[he];show _=Ending.returned (Value.int .i64 (Lib.index x.data.toList [47]));rw[Lib.index_one],hw⟩)
  ((Tryz.strings_Count_one ⟨s.toArray⟩ 47 w).mono fun e w' ⟨he,hw⟩=>⟨by rw[he];show _=Ending.returned (Value.int .i64 ((Lib.count s.toArray.toList [47]:Nat):Int));rw[Lib.count_one];rfl,hw⟩) (by decide) (by decide) (by rw[if_pos (by decide)];omega)
 rw[Nat.add_sub_cancel,hlen]at c;have e2:Lib.cellsOf (levelsB s) (Lib.countB ⟨s.toArray⟩ ⟨#[47]⟩+1)=((levelsB s).map Value.string).toArray:=by unfold levelsB;rw[<-hlen];exact Lib.cellsOf_full _
 unfold levelsB at e2 ⊢;rw[e2]at c;rw[hlen];have C:=hid c;clear c e2 hle hs';go_enter func239,ntmps239;go_wp2_with (go_at_call 279;refine C.mono ?_;rintro e w' ⟨rfl,hw⟩;rw[hw])
 go_ret;exact⟨rfl,rfl⟩
theorem top_Levels(s:List UInt8)(w:World)(hs:s.length<4294967281):
  Calls prog 191 #[.string ⟨s.toArray⟩] w fun e w'=>e=.returned (.slice (some ⟨w.heap.size,0,none⟩) (levelsB s).length (levelsB s).length)/\w'=w.alloc (.cells ((levelsB s).map Value.string).toArray 9):=by
 have C:=hid (str_Split s w hs);go_enter func191,ntmps191;go_wp2_with (go_at_call 239;refine C.mono ?_;rintro e w1 ⟨rfl,rfl⟩)
 go_ret;exact⟨rfl,rfl⟩
theorem top_levels(a:Option Addr)(n c:Nat)(w:World):
  Calls prog 190 #[.slice a n c] w fun e w'=>e=.returned (.func (.func 238) #[] #[.pointer (some ⟨w.heap.size,0,none⟩)])/\w.alloc (.cells #[.slice a n c] 50)=w':=by
 go_enter func190,ntmps190;go_wp2;go_ret;exact⟨rfl,rfl⟩
def lvl(ps:List ByteArray)(i:Nat):ByteArray:=ps[i]?.getD ⟨#[]⟩
def encL(ps:List ByteArray)(i:Nat):Array Value:=#[.string (lvl ps i),.bool (decide (i+1=ps.length))]
theorem top_levels1(ps:List ByteArray)(w:World)(B V:Nat)(hV:Blk w V (ps.map Value.string).toArray 9)(hb:Boxed w B 50 (.slice (some ⟨V,0,none⟩) ps.length ps.length))(hn:ps.length<=4294967296):
  SeqG prog 238 #[.pointer (some ⟨B,0,none⟩)] (encL ps) (Keep 0 [B,V]) (Wrote []) (fun pre i _=>pre=List.range i/\i<ps.length) (fun xs=>xs=List.range ps.length) (fun pre=>∃i,pre=List.range (i+1)/\i<ps.length) w:=by
 intro lb J Jx W hW hlb hJ hJx hY h0;have hb:=boxed_below hb hW;have hV:=hV.below hW;refine callsIn_of_wp func238 rfl trivial ?_ rfl;simp only[ntmps238,List.size_toArray,List.length_cons,List.length_nil,Nat.reduceAdd,Nat.reduceSub,Array.replicate_succ,Array.replicate_zero,List.push_toArray,List.append_toArray,List.nil_append,List.cons_append];have hc1:=hb.cell
 gi_wp2
 gi_loopw [3,4,7] (fun _ _ i wr=>∃(k:Nat),i=.int .i64 k/\k<=ps.length/\Boxed wr B 50 (.slice (some ⟨V,0,none⟩) ps.length ps.length)/\Blk wr V (ps.map Value.string).toArray 9/\J (List.range k) wr)
  (fun _ _ i _=>ps.length-(intOf i).toNat)
 case atStart=>exact⟨0,rfl,Nat.zero_le _,hb,hV,h0⟩
 case round=>
  obtain⟨k,rfl,hk,hb,hV,hj⟩:=hrel;rcases Nat.lt_or_ge k ps.length with hlt | hge
  ·have dk:decide ((k:Int)<(ps.length:Int))=true:=decide_eq_true (by omega);have hcb:=hb.cell;obtain⟨x,hx⟩:∃x,ps[k]?=some x:=⟨_,List.getElem?_eq_getElem hlt⟩;have hcv:wr.cell? ⟨V,k,none⟩=some (.string x):=(hV.cell k).trans (by simp[hx]);have hsucc:=hid (List.range_succ (n:=k));obtain⟨n,hn'⟩:=gen_of ((ps.length:Int):Int);obtain⟨b,hbd⟩:=gen_of (decide (k+1=ps.length));have he:((k:Int)==n-1)=b:=by rw[<-hbd,Bool.eq_iff_iff];simp;omega
   obtain⟨fn,tmps,assign,body,hy2,hR⟩:=hY (List.range k) k wr hj ⟨rfl,hlt⟩;replace hy2:(Instr.yield lb #[.string (ps[k]?.getD ⟨#[]⟩),.bool (decide (k+1=ps.length))]).run prog wr=_:=hy2;rw[hx]at hy2;simp only[Option.getD_some,hbd]at hy2;have HR:=hid hR;clear hR;gi_wp2_with fail;refine⟨rfl,HR.mono ?_⟩;rintro e W3 (⟨rfl,hJ3,hk3⟩ | ⟨rfl,hJx3⟩)
   ·gi_wp2
    subst hn';go_roundw
    case rel=>exact⟨k+1,by go_num,by omega,(hk3.keep B (by simp)).trans hb,hV.keep (hk3.keep V (by simp)),by rw[hsucc.out];exact hJ3⟩
    case measure=>simp[intOf];omega
   gi_wp2
   refine bodyPost_ret (results_none rfl _ _ _) rfl ?_;exact⟨⟨_,rfl⟩,.inr ⟨_,⟨k,hsucc.symm,hlt⟩,hJx3⟩⟩
  obtain rfl:k=ps.length:=by omega
  gi_wp2
  refine bodyPost_end (results_none rfl _ _ _) rfl ?_;exact⟨⟨_,rfl⟩,.inl ⟨_,rfl,hj⟩⟩
theorem toList_inj{a b:ByteArray}(h:a.toList=b.toList):a=b:=by have e:∀c:ByteArray,c.toList=c.data.toList:=fun c=>ByteArray.toList_eq c;rw[e,e]at h;obtain⟨⟨l⟩⟩:=a;obtain⟨⟨m⟩⟩:=b;simp at h;rw[h]
theorem blk_at(w:World)(cs:Array Value)(T:TypeId)(n:Nat)(h:w.heap.size=n):Blk (w.alloc (.cells cs T)) n cs T:=by subst h;exact Blk.new w cs T
theorem splitB_size(sep:ByteArray):∀(k:Nat)(s:ByteArray),∀x∈Lib.splitB sep 0 k s,x.size<=s.size:=by
 intro k;induction k with
 | zero=>intro s x hx;rw[Lib.splitB_zero]at hx;simp at hx;subst hx;exact Nat.le_refl _
 | succ k ih=>
  intro s x hx;unfold Lib.splitB at hx;split at hx
  ·simp at hx;subst hx;exact Nat.le_refl _
  rcases List.mem_cons.1 hx with rfl | hx
  ·simp[ByteArray.size_extract];omega
  have:=ih _ x hx;simp[ByteArray.size_extract]at this;omega
theorem levelsB_size(s:List UInt8):∀x∈levelsB s,x.data.toList.length<=s.length:=by
 intro x hx;have h1:=splitB_size ⟨#[47]⟩ _ ⟨s.toArray⟩ x hx;have e:ByteArray.size ⟨s.toArray⟩=s.length:=by simp[ByteArray.size]
 have e2:x.data.toList.length=x.size:=by rw[Array.length_toList];rfl
 omega
theorem levelsB_len(s:List UInt8):(levelsB s).length<=s.length+1:=by
 unfold levelsB;have h1:=Lib.splitB_length_le ⟨#[47]⟩ 0 (Lib.countB ⟨s.toArray⟩ ⟨#[47]⟩) ⟨s.toArray⟩;have h2:=Lib.countB_le ⟨#[47]⟩ (by decide) _ ⟨s.toArray⟩ nat_le_rfl;have e:ByteArray.size ⟨s.toArray⟩=s.length:=by simp[ByteArray.size]
 rw[e]at h2;have h3:Lib.countB ⟨s.toArray⟩ ⟨#[47]⟩<=s.length:=by first | exact h2 | (simp at h2;omega)
 omega
def lvlOK(x:List UInt8)(last:Bool):Bool:=decide (x=[43])||(decide (x=[35])&&last)|| !anyR x
def filterL(ps:List ByteArray)(k:Nat):Bool:=(List.range k).all fun i=>lvlOK (lvl ps i).data.toList (decide (i+1=ps.length))
def filterR(s:List UInt8):Bool:=filterL (levelsB s) (levelsB s).length&&saidR s
theorem filterL_succ(ps:List ByteArray)(k:Nat):filterL ps (k+1)=(filterL ps k&&lvlOK (lvl ps k).data.toList (decide (k+1=ps.length))):=by unfold filterL;rw[List.range_succ,List.all_append];simp
theorem filterL_bad(ps:List ByteArray)(k n:Nat)(h:k<n)(hb:lvlOK (lvl ps k).data.toList (decide (k+1=ps.length))=false):filterL ps n=false:=by unfold filterL;rw[List.all_eq_false];exact⟨k,by simp[h],by simp[hb]⟩
def FilI(w:World)(ps:List ByteArray)(pre:List Nat)(W:World):Prop:=(∃k,pre=List.range k/\filterL ps k=true)/\Boxed W w.heap.size 4 (.bool false)/\Below w.heap.size w W
def FilX(w:World)(ps:List ByteArray)(c:Code)(_pre:List Nat)(W:World):Prop:=c=.ret/\filterL ps ps.length=false/\Boxed W w.heap.size 4 (.bool false)/\Below w.heap.size w W
theorem topic_Filter2(s:List UInt8)(w:World)(hs:s.length<=2000000):
  Calls prog 135 #[.string ⟨s.toArray⟩] w fun e w'=>e=.returned (.bool (filterR s))/\Below w.heap.size w w':=by
 have hlen:=levelsB_len s;have hsize:=levelsB_size s;unfold filterR;have CL:=hid fun W=>top_Levels s W (by omega);have CT:=hid fun W=>topic_said s W (by omega);generalize hps:levelsB s=ps at*
 have hps:=hid hps;refine calls_marks func135 rfl ?_;simp only[ntmps135,List.size_toArray,List.length_cons,List.length_nil,Nat.reduceAdd,Nat.reduceSub,Array.replicate_succ,Array.replicate_zero,List.push_toArray,List.append_toArray,List.nil_append,List.cons_append];go_wp2_with fail
 refine(CL _).mono ?_;rintro e w1 ⟨rfl,rfl⟩;go_wp2_with fail
 refine(top_levels _ _ _ _).mono ?_;rintro e w2 ⟨rfl,rfl⟩;go_wp2_with fail
 try simp only[World.size_alloc]
 generalize hW0:((w.alloc (Obj.cells #[Value.bool false] 4)).alloc (Obj.cells (ps.map Value.string).toArray 9)).alloc (Obj.cells #[Value.slice (some ⟨w.heap.size+1,0,none⟩) ps.length ps.length] 50)=W0;have hsz:W0.heap.size=w.heap.size+3:=by rw[<-hW0];simp
 have hb0:Below w.heap.size w W0:=by rw[<-hW0];exact belw
 have b1:Boxed W0 w.heap.size 4 (.bool false):=by have e1:=Boxed.new w 4 (.bool false);rw[<-hW0];exact(e1.alloc _).alloc _
 have b2:Boxed W0 (w.heap.size+2) 50 (.slice (some ⟨w.heap.size+1,0,none⟩) ps.length ps.length):=by rw[<-hW0];exact blk_at _ _ _ _ (by simp)
 have b3:Blk W0 (w.heap.size+1) (ps.map Value.string).toArray 9:=by rw[<-hW0];exact(blk_at _ _ _ _ (by simp)).alloc _
 have HW0:=hid hW0;clear hW0;refine wp_range (α:=Nat) (gf:=238) (lb:=#[.pointer (some ⟨w.heap.size+2,0,none⟩)]) rfl (enters_of func238 (by kernel_rfl) rfl)
  (n₀:=0) (L:=[w.heap.size+2,w.heap.size+1]) (M:=[]) (top_levels1 ps W0 (w.heap.size+2) (w.heap.size+1) b3 b2 (by omega))
  (Nat.zero_le _) (by simp;omega) (by simp) (fun _=>rfl) (FilI w ps) (FilX w ps) ?hI ?hIx ?h0
  (fun pre i a' W=>(pre=List.range i/\i<ps.length)/\a'={tmps:=#[.string ⟨s.toArray⟩,undef,.pointer (some ⟨w.heap.size,0,none⟩),.string (lvl ps i),.bool (decide (i+1=ps.length)),undef,.string ⟨s.toArray⟩,.slice (some ⟨w.heap.size+1,0,none⟩) ps.length ps.length,.func (.func 238) #[] #[.pointer (some ⟨w.heap.size+2,0,none⟩)],.string (lvl ps i),.bool (decide (i+1=ps.length)),undef,undef,undef,undef,undef,undef,undef,undef,undef,undef,undef,undef,undef,undef,undef,undef,undef],defers:=[]}) ?hAx ?assign ?body ?done ?stop
 case hI=>rintro s A A' ⟨g1,g2,g3⟩ hw;rw[hsz]at hw;exact⟨g1,hw.boxed (by simp<;>omega) g2,g3.trans (hw.below g3.size (by simp<;>omega))⟩
 case hIx=>rintro c s A A' ⟨rfl,g0,g1,g2⟩ hw;rw[hsz]at hw;exact⟨rfl,g0,hw.boxed (by simp<;>omega) g1,g2.trans (hw.below g2.size (by simp<;>omega))⟩
 case h0=>exact⟨⟨0,rfl,rfl⟩,b1,hb0⟩
 case hAx=>rintro pre x a' A A' ⟨hx,rfl⟩ hl hw;exact⟨hx,rfl⟩
 case assign=>
  intro pre x W K hl hi hx hK;simp only[encL]
  gi_wp2
  refine hK _ _ bel_refl hi ⟨hx,rfl⟩
 case body=>
  rintro pre i a' W hl ⟨⟨k,hk1,hk2⟩,g2,g3⟩ ⟨⟨hx1,hx2⟩,rfl⟩;have hki:k=i:=by have:=congrArg List.length (hk1.symm.trans hx1);simpa using this
  subst hki;subst hx1;have hmem:lvl ps k∈ps:=by unfold lvl;rw[List.getElem?_eq_getElem hx2];exact List.getElem_mem hx2
  have hxs:=hsize _ hmem;have hsucc:=filterL_succ ps k;have hrange:=hid (List.range_succ (n:=k));have hbad:=filterL_bad ps k ps.length hx2;obtain⟨x,hl2⟩:=gen_of (lvl ps k);rw[hl2]at hxs hsucc hbad ⊢;obtain⟨l,hlx⟩:=gen_of x.data.toList;rw[hlx]at hxs hsucc hbad;have hx:(⟨l.toArray⟩:ByteArray)=x:=by rw[<-hlx]
  have CA:=anyOK l (by omega);obtain⟨bl,hbl⟩:=gen_of (decide (k+1=ps.length));obtain⟨ba,hba⟩:=gen_of (anyR l);obtain⟨b1',hb1⟩:=gen_of (decide (l=[43]));obtain⟨b2',hb2⟩:=gen_of (decide (l=[35]));have e1:b1'=true↔x=⟨#[43]⟩:=by rw[<-hb1,<-hx];simp
  have e2:b2'=true↔x=⟨#[35]⟩:=by rw[<-hb2,<-hx];simp
  unfold AnyOK at CA;rw[hba,hx]at CA;unfold lvlOK at hsucc hbad;simp only[hbl,hba,hb1,hb2,hk2]at hsucc hbad;rw[hbl];replace CA:=hid CA;have c1:=g2.cell;have f1:=g2.frozen;rw[hsz]at hl;have hcase:b1'=true\/(b1'=false/\b2'=true/\bl=true)\/(b1'=false/\b2'=false/\ba=false)\/(b1'=false/\b2'=false/\ba=true)\/(b1'=false/\b2'=true/\bl=false/\ba=false)\/(b1'=false/\b2'=true/\bl=false/\ba=true):=by cases b1'<;>cases b2'<;>cases bl<;>cases ba<;>simp
  clear hb1 hb2 hba hbl hmem hl2 hxs hlx hx;rcases hcase with rfl | ⟨rfl,rfl,rfl⟩ | ⟨rfl,rfl,rfl⟩ | ⟨rfl,rfl,rfl⟩ | ⟨rfl,rfl,rfl,rfl⟩ | ⟨rfl,rfl,rfl,rfl⟩
  ·have h1:=e1.1 rfl;clear e1 e2;subst h1;replace hsucc:=hid hsucc;clear hbad;gi_wp2;refine⟨trivial,?_⟩
   gi_wp2
   exact⟨Keep.refl _ _ _,⟨k+1,hrange.symm,by rw[hsucc.out];rfl⟩,g2,g3⟩
  ·have h1:¬x=⟨#[43]⟩:=fun h=>by have:=e1.2 h;cases this
   have h2:=e2.1 rfl;clear e1 e2 h1;subst h2;replace hsucc:=hid hsucc;clear hbad;gi_wp2;refine⟨trivial,?_⟩
   gi_wp2
   exact⟨Keep.refl _ _ _,⟨k+1,hrange.symm,by rw[hsucc.out];rfl⟩,g2,g3⟩
  ·have h1:¬x=⟨#[43]⟩:=fun h=>by have:=e1.2 h;cases this
   have h2:¬x=⟨#[35]⟩:=fun h=>by have:=e2.2 h;cases this
   have i1:¬x.toList=[43]:=fun h=>h1 (toList_inj (by rw[h];exact(ByteArray.toList_mk [43]).symm));have i2:¬x.toList=[35]:=fun h=>h2 (toList_inj (by rw[h];exact(ByteArray.toList_mk [35]).symm));have g1':(x.toList==[43])=false:=by simpa using i1
   have g2':(x.toList==[35])=false:=by simpa using i2
   clear e1 e2;replace hsucc:=hid hsucc;clear hbad;gi_wp2_with fail;refine inW (CA _) ?_;rintro e w5 ⟨rfl,hb5⟩
   gi_wp2
   refine⟨Keep.of_below hb5 (Nat.zero_le _) (by simp;omega),⟨k+1,hrange.symm,by rw[hsucc.out];rfl⟩,boxed_below g2 hb5,g3.trans (hb5.mono g3.size)⟩
  ·have h1:¬x=⟨#[43]⟩:=fun h=>by have:=e1.2 h;cases this
   have h2:¬x=⟨#[35]⟩:=fun h=>by have:=e2.2 h;cases this
   have i1:¬x.toList=[43]:=fun h=>h1 (toList_inj (by rw[h];exact(ByteArray.toList_mk [43]).symm));have i2:¬x.toList=[35]:=fun h=>h2 (toList_inj (by rw[h];exact(ByteArray.toList_mk [35]).symm));have g1':(x.toList==[43])=false:=by simpa using i1
   have g2':(x.toList==[35])=false:=by simpa using i2
   clear e1 e2;replace hbad:=hid hbad;clear hsucc;gi_wp2_with fail;refine inW (CA _) ?_;rintro e w5 ⟨rfl,hb5⟩;have g5:=boxed_below g2 hb5;have c5:=g5.cell;have f5:=g5.frozen
   gi_wp2
   have hb53:=g3.trans (hb5.mono g3.size);refine⟨(Keep.of_below hb5 (Nat.zero_le _) (by simp;omega)).trans (Keep.setCell _ _ (by simp) (by simp;omega) _),rfl,hbad rfl,g5.set _,hb53.setCell (p:=⟨w.heap.size,0,none⟩) (by simp) _⟩
  ·have h1:¬x=⟨#[43]⟩:=fun h=>by have:=e1.2 h;cases this
   have h2:=e2.1 rfl;clear e1 e2 h1;subst h2;replace hsucc:=hid hsucc;clear hbad;gi_wp2_with fail;refine inW (CA _) ?_;rintro e w5 ⟨rfl,hb5⟩
   gi_wp2
   refine⟨Keep.of_below hb5 (Nat.zero_le _) (by simp;omega),⟨k+1,hrange.symm,by rw[hsucc.out];rfl⟩,boxed_below g2 hb5,g3.trans (hb5.mono g3.size)⟩
  have h1:¬x=⟨#[43]⟩:=fun h=>by have:=e1.2 h;cases this
  have h2:=e2.1 rfl;clear e1 e2 h1;subst h2;replace hbad:=hid hbad;clear hsucc;gi_wp2_with fail;refine inW (CA _) ?_;rintro e w5 ⟨rfl,hb5⟩;have g5:=boxed_below g2 hb5;have c5:=g5.cell;have f5:=g5.frozen
  gi_wp2
  have hb53:=g3.trans (hb5.mono g3.size);refine⟨(Keep.of_below hb5 (Nat.zero_le _) (by simp;omega)).trans (Keep.setCell _ _ (by simp) (by simp;omega) _),rfl,hbad rfl,g5.set _,hb53.setCell (p:=⟨w.heap.size,0,none⟩) (by simp) _⟩
 case done=>
  rintro xs W hS ⟨⟨k,hk1,hk2⟩,g2,g3⟩ hl hD;rw[hsz]at hl;have hke:k=ps.length:=by have:=congrArg List.length (hk1.symm.trans hS);simpa using this
  subst hke;have HF:=hid hk2;clear hS hk1 hk2;have c1:=g2.cell;have f1:=g2.frozen;go_wp2_with fail
  refine(CT _).mono ?_;rintro e W5 ⟨rfl,hb5⟩;have g5:=boxed_below g2 hb5;have c5:=g5.cell;have f5:=g5.frozen;go_wp2;have d1:Boxed (W5.setCell ⟨w.heap.size,0,none⟩ (.bool (saidR s))) w.heap.size 4 (.bool (saidR s)):=g5.set _;have hD5:=(hb5.block _ (by omega)).trans hD;rw[hsz]at hD5;refine ret_mark (v:=.bool (saidR s)) (D:=w.heap.size+3) ((Below.heap_setCell _ _ _ _ (by simp)).trans hD5) (fun w' hw'=>?_);have wp:Wrote [w.heap.size+3] (W5.setCell ⟨w.heap.size,0,none⟩ (.bool (saidR s))) w':=by rw[hw'];exact Wrote.putObj _ _ (by simp) _
  have d4:=(wp.boxed (by simp) d1).cell;have hb:Below w.heap.size w (W5.setCell ⟨w.heap.size,0,none⟩ (.bool (saidR s))):=(g3.trans (hb5.mono g3.size)).setCell (p:=⟨w.heap.size,0,none⟩) (by simp) _;exact⟨by simp[results,results135,go_sem,d4],by rw[HF.out,Bool.true_and],hb.trans (wp.below hb.size (by simp))⟩
 case stop=>
  rintro c pre W _ ⟨rfl,g0,g1,g2⟩ hl hD;rw[hsz]at hl;have HF:=hid g0;clear g0;have c1:=g1.cell;have f1:=g1.frozen;go_wp2;have d1:Boxed W w.heap.size 4 (.bool false):=g1;refine ret_mark (v:=.bool false) hD (fun w' hw'=>?_);have wp:Wrote [W0.heap.size] W w':=by rw[hw'];exact Wrote.putObj _ _ (by simp) _
  have d4:=(wp.boxed (by simp;omega) d1).cell;have hb:Below w.heap.size w W:=g2;exact⟨by simp[results,results135,go_sem,d4],by rw[HF.out,Bool.false_and],hb.trans (wp.below hb.size (by simp;omega))⟩
end
theorem own_slice{w:World}{base:Nat}{e:TypeId}{size:Nat}{v:Value}{n:Nat}{xs:List Value}(h:w.ownsRow base e size v n xs):∃a cap,v=.slice a n cap:=by
 obtain⟨_,⟨rfl,rfl⟩ | ⟨g,cap,cur,rfl,_⟩⟩:=h
 ·exact⟨_,_,rfl⟩
 exact⟨_,_,rfl⟩
theorem ChangeV.one(c:ChangeV):∀u∈c.cells,u.oneCell'=true:=by simp[ChangeV.cells,RowV.vals,Value.oneCell']
theorem PackV.one(c:PackV):∀u∈c.cells,u.oneCell'=true:=by simp[PackV.cells,Value.oneCell']
def Lay.nil(L:Lay):Lay:={L with vp:=.slice none 0 0,vc:=.slice none 0 0}
theorem not_own{w:World}{base:Nat}{e:TypeId}{size:Nat}{v:Value}{n:Nat}{xs:List Value}(h:w.ownsRow base e size v n xs){M:List Nat}{w':World}(hw:Wrote M w w')(hM:∀x∈M,x∉blk v):w'.ownsRow base e size v n xs:=by
 obtain⟨hl,hx | ⟨g,cap,cur,rfl,hg,hh,hx⟩⟩:=h
 ·exact⟨hl,.inl hx⟩
 exact⟨hl,.inr ⟨g,cap,cur,rfl,hg,(hw.block g (Array.getElem?_eq_some_iff.1 hh).1 (fun hm=>hM g hm (by simp[blk,Value.ownBlock]))).trans hh,hx⟩⟩
theorem OB.out{w w':World}{B:Nat}{L:Lay}{s:OS}{ps:List PackV}{cs:List ChangeV}(h:OB w B L s ps cs){M:List Nat}(hw:Wrote M w w')(hM:∀x∈M,x∉L.foot)(hg:1∉M):OB w' B L s ps cs:=by
 have hm:∀x,x∈L.foot->x∉M:=fun x hx hm=>hM x hm hx;refine⟨Nat.le_trans h.base hw.size,h.box.wrote hw (hm _ (by simp[Lay.foot])),h.inb.wrote hw (hm _ (by simp[Lay.foot])) (hm _ (by simp[Lay.foot])),h.set,not_own h.rows hw (fun x hx hb=>hM x hx (by simp[Lay.foot,hb])),h.len,fun i b r h1 h2=>(h.cells i b r h1 h2).wrote hw (hm _ ?_),h.nodup,
  not_own h.packs hw (fun x hx hb=>hM x hx (by simp[Lay.foot,hb])),not_own h.chgs hw (fun x hx hb=>hM x hx (by simp[Lay.foot,hb])),h.tz.wrote hw hg,h.gg,h.ok⟩
 have:=List.mem_of_getElem? h1;simp[Lay.foot,this]
theorem OB.rebase{w:World}{B:Nat}{L:Lay}{s:OS}(h:OB w B L.nil s [] []){B':Nat}(hB:B'<=w.heap.size):OB w B' L.nil s [] []:=
 ⟨hB,h.box,h.inb,h.set,h.rows,h.len,h.cells,h.nodup,World.ownsRow_nil _ _ _ _,World.ownsRow_nil _ _ _ _,h.tz,h.gg,h.ok⟩
end Go.Proofs.YtkghejaimhoboaaGreatDoor
