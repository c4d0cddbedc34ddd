/- Parts of the proof of ScriptRaws. -/
import Derived.Test.YtkghejaimhoboaaGreatDoorPr05
set_option linter.unusedSimpArgs false
set_option linter.unusedVariables false
set_option maxRecDepth 100000
set_option maxHeartbeats 8000000
namespace Go.Proofs.YtkghejaimhoboaaGreatDoor
open Go.RowKit Go.Shelf Go.Proofs.Tryz
theorem Tryz.eI32:ElemT prog 288 21 (.int .i32 0) 1 4:=⟨underlying288,by kernel_rfl,rfl⟩
def runesI(s:List UInt8):List Int:=(runesL s 0).1.map fun(r:Nat)=>(r:Int)
theorem runesL_len(s:List UInt8)(p:Nat):(runesL s p).1.length<=s.length:=by
 have key:∀f (s:List UInt8) p,(runesF f s p).1.length<=f:=by
  intro f;induction f with
  | zero=>intros;simp[runesF]
  | succ f ih=>
   intro s p;unfold runesF;split
   ·simp
   split
   ·simp
   have:=ih (s.drop (firstF s).2) (p+(firstF s).2);simp only[List.length_cons];omega
 exact key _ _ _
theorem ChainU.len{s:List UInt8}{p:Nat}{pre:List (Nat×Nat)}{s':List UInt8}{p':Nat}(h:ChainU s p pre s' p'):pre.length<=s.length:=by have h1:=h.runes;have h2:=runesL_len s p;rw[h1]at h2;simp at h2;omega
theorem RuneNx.len{s:List UInt8}{pre:List (Nat×Nat)}{x:Nat×Nat}{W:World}(h:RuneNx s pre x W):pre.length<=s.length:=by obtain⟨s',p',hch,_⟩:=h;exact hch.len
theorem ns_snoc(k:IntKind)(l:List Int)(x:Int):ns k l++[.int k x]=ns k (l++[x]):=by simp[ns]
def RunesR(s:List UInt8)(w:World)(e:Ending)(w':World):Prop:=
 Below w.heap.size w w'/\((wrongU s= -1/\∃v,e=.returned (.tuple #[v,.int .i64 (-1)])/\w'.ownsRow w.heap.size 21 1 v (runesI s).length (ns .i32 (runesI s)))\/
  (0<=wrongU s/\e=.returned (.tuple #[.slice none 0 0,.int .i64 (wrongU s)])))
theorem ref_Runes(s:List UInt8)(w:World)(hs:s.length<=1000000):
  Calls prog 236 #[.string ⟨s.toArray⟩] w (RunesR s w):=by
 have hsz:ByteArray.size ⟨s.toArray⟩=s.length:=by simp[ByteArray.size]
 go_enter func236,ntmps236;go_wp2;go_loopw [4,5,6,7] (fun v at_ _ _ wr=>∃(pre:List (Nat×Nat))(s':List UInt8)(p':Nat),at_=.int .i64 p'/\p'<=s.length/\pre.length<=s.length/\Below w.heap.size w wr/\ChainU s 0 pre s' p'/\Hid (s'=s.drop p')/\wr.ownsRow w.heap.size 21 1 v pre.length (ns .i32 (pre.map fun x=>(x.2:Int))))
  (fun _ at_ _ _ _=>s.length-(intOf at_).toNat)
 case atStart=>exact⟨[],s,0,rfl,Nat.zero_le _,Nat.zero_le _,Below.refl _ _,⟨rfl,rfl⟩,rfl,World.ownsRow_nil _ _ _ _⟩
 case round=>
  obtain⟨pre,s',p',rfl,hp,hpl,hbel,hch,hs',hown⟩:=hrel;rcases Nat.lt_or_ge p' s.length with hlt | hge
  ·have hcut:=fun W=>str_from s p' hp W;have hl':s'.length=s.length-p':=by rw[hs'.out];simp
   have HC:=hid (ref_First s' wr (by omega));rw[<-hs'.out]at hcut;have hle:=firstF_le s';have hbd:badR s' p'=(decide ((firstF s').2=0)||decide (65535<p'+(firstF s').2)):=rfl;have hne:s'≠[]:=by intro h;rw[h]at hl';simp at hl';omega
   have HSN:=hid (fun h=>hch.snoc hne h);have HBAD:=hid (fun(h:badR s' p'=true)=>show wrongU s=(p':Int)from by unfold wrongU;rw[hch.runes,runesL_bad s' p' hne h]);generalize hq1:(firstF s').1=r at*
   generalize hq2:(firstF s').2=n at*
   rcases(show n=0\/(0<n/\65535<p'+n)\/(0<n/\p'+n<=65535) by omega)with rfl | ⟨hn,hn2⟩ | ⟨hn,hn2⟩
   ·have HW:=hid (HBAD (by simp[hbd]));go_wp2_with fail
    refine HC.mono ?_;rintro e w2 ⟨rfl,hb2⟩;go_wp2
    go_ret2
    exact⟨hbel.trans (hb2.mono hbel.size),.inr ⟨by rw[HW.out];omega,by rw[HW.out];rfl⟩⟩
   ·have e1:((n:Int)==0)=false:=by simp;omega
    have HW:=hid (HBAD (by rw[hbd];simp;omega));go_wp2_with fail
    refine HC.mono ?_;rintro e w2 ⟨rfl,hb2⟩;go_wp2
    go_ret2
    exact⟨hbel.trans (hb2.mono hbel.size),.inr ⟨by rw[HW.out];omega,by rw[HW.out];rfl⟩⟩
   have e1:((n:Int)==0)=false:=by simp;omega
   have hbt:badR s' p'=false:=by rw[hbd];simp;omega
   go_wp2_with fail
   refine HC.mono ?_;rintro e w2 ⟨rfl,hb2⟩;have hbel2:=hbel.trans (hb2.mono hbel.size);have hown2:=ownsRow_below hown hb2;have hsz2:=hbel2.size;have hpl2:pre.length+1<=s.length:=by have:=(HSN hbt).len;simpa using this
   clear hown;obtain⟨va,vc,rfl, -⟩:=RowAt.of_own hown2;go_wp2_with (at_builtin;refine append_one rfl _ _ rfl Tryz.eI32 w.heap.size _ pre.length _ rfl hown2 (.int .i32 r) rfl rfl (by omega) (by omega) (by omega) ?_;intro v' w' how' hg';obtain⟨a',c',rfl, -⟩:=RowAt.of_own how')
   go_roundw
   case rel=>
    refine⟨pre++[(p',r)],s'.drop n,p'+n,by go_num,by omega,by simpa using hpl2,hbel2.grown hg' hbel2.size (fun k e=>(hown2.lt k e).1),HSN hbt,?_,?_⟩
    ·show s'.drop n=s.drop (p'+n);rw[hs'.out,List.drop_drop]
    rw[List.length_append,List.map_append];rw[ns_snoc]at how';exact how'
   case measure=>simp[intOf];omega
  obtain rfl:p'=s.length:=by omega
  have hnil:s'=[]:=by rw[hs'.out];simp
  subst hnil;have hw:wrongU s= -1/\runesI s=pre.map fun x=>(x.2:Int):=by unfold wrongU runesI;rw[hch.runes];simp[runesL_nil]
  have HW:=hid hw;clear hw;obtain⟨va,vc,rfl, -⟩:=RowAt.of_own hown;go_wp2;refine bodyPost_ret (v:=.tuple #[.slice va pre.length vc,.int .i64 (-1)]) (by simp[results,results236,go_sem]) rfl ⟨hbel,.inl ⟨HW.1,_,rfl,?_⟩⟩;rw[HW.2,List.length_map];exact hown
end Go.Proofs.YtkghejaimhoboaaGreatDoor
