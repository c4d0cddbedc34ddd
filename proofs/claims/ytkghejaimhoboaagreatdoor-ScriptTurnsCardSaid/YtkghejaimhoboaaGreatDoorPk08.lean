/- Parts of the proof of ScriptTurns. -/
import Derived.Test.YtkghejaimhoboaaGreatDoorPk05
set_option linter.unusedSimpArgs false
set_option linter.unusedVariables false
set_option maxRecDepth 100000
set_option maxHeartbeats 8000000
namespace Go.Proofs.YtkghejaimhoboaaGreatDoor
open Go.RowKit Go.Shelf Go.Proofs.Tryz
theorem Tryz.aaZ:fL prog 288 21 (.int .i32 0) 1 4:=⟨underlying288,by kernel_rfl,rfl⟩
def yn(s:List UInt8):List Int:=(fp s 0).1.map fun(r:Nat)=>(r:Int)
theorem Dh(s:List UInt8)(p:Nat):(fp s p).1.length<=s.length:=by
 have key:∀f (s:List UInt8) p,(i7 f s p).1.length<=f:=by
  intro f;induction f with
  | zero=>intros;simp[i7]
  | succ f ih=>
   intro s p;unfold i7;split
   ·simp
   split
   ·simp
   have:=ih (s.drop (aU s).2) (p+(aU s).2);simp only[List.length_cons];omega
 exact key _ _ _
theorem iE.len{s:List UInt8}{p:Nat}{pre:List (Nat×Nat)}{s':List UInt8}{p':Nat}(h:iE s p pre s' p'):pre.length<=s.length:=by have h1:=h.zB;have h2:=Dh s p;rw[h1]at h2;simp at h2;omega
theorem Oa(k:IntKind)(l:List Int)(x:Int):ns k l++[.int k x]=ns k (l++[x]):=by simp[ns]
def Kj(s:List UInt8)(w:World)(e:Ending)(w':World):Prop:=
 Below w.heap.size w w'/\((cr s= -1/\∃v,e=.returned (.tuple #[v,.int .i64 (-1)])/\w'.ownsRow w.heap.size 21 1 v (yn s).length (ns .i32 (yn s)))\/
  (0<=cr s/\e=.returned (.tuple #[.slice none 0 0,.int .i64 (cr s)])))
theorem rE(s:List UInt8)(w:World)(hs:s.length<=1000000):
  Calls prog 236 #[.string ⟨s.toArray⟩] w (Kj s w):=by
 have hsz:ByteArray.size ⟨s.toArray⟩=s.length:=by simp[ByteArray.size]
 go_enter func236,ntmps236;go_wp2;go_loopw [4,5,6,7] (fun v at_ _ _ wr=>∃(pre:List (Nat×Nat))(s':List UInt8)(p':Nat),at_=.int .i64 p'/\p'<=s.length/\pre.length<=s.length/\Below w.heap.size w wr/\iE s 0 pre s' p'/\Hid (s'=s.drop p')/\wr.ownsRow w.heap.size 21 1 v pre.length (ns .i32 (pre.map fun x=>(x.2:Int))))
  (fun _ at_ _ _ _=>s.length-(intOf at_).toNat)
 case atStart=>exact⟨[],s,0,rfl,Nat.zero_le _,Nat.zero_le _,Below.refl _ _,⟨rfl,rfl⟩,rfl,World.ownsRow_nil _ _ _ _⟩
 case round=>
  obtain⟨pre,s',p',rfl,hp,hpl,bK,hch,hs',hown⟩:=hrel;rcases Nat.lt_or_ge p' s.length with hlt | jw
  ·have hcut:=fun W=>zU s p' hp W;have hl':s'.length=s.length-p':=by rw[hs'.out];simp
   have HC:=af (G1 s' wr (by omega));rw[<-hs'.out]at hcut;have hle:=rp s';have jL:kW s' p'=(decide ((aU s').2=0)||decide (65535<p'+(aU s').2)):=rfl;have hne:s'≠[]:=by intro h;rw[h]at hl';simp at hl';omega
   have Qe:=af (fun h=>hch.snoc hne h);have VZ:=af (fun(h:kW s' p'=true)=>show cr s=(p':Int)from by unfold cr;rw[hch.zB,tZ s' p' hne h]);generalize x5:(aU s').1=r at*
   generalize RH:(aU s').2=n at*
   rcases(show n=0\/(0<n/\65535<p'+n)\/(0<n/\p'+n<=65535) by omega)with rfl | ⟨hn,pR⟩ | ⟨hn,pR⟩
   ·have HW:=af (VZ (by simp[jL]));go_wp2_with fail
    refine HC.mono ?_;rintro e w2 ⟨rfl,hb2⟩;go_wp2
    go_ret2
    exact⟨bK.trans (hb2.mono bK.size),.inr ⟨by rw[HW.out];omega,by rw[HW.out];rfl⟩⟩
   ·have e1:((n:Int)==0)=false:=by simp;omega
    have HW:=af (VZ (by rw[jL];simp;omega));go_wp2_with fail
    refine HC.mono ?_;rintro e w2 ⟨rfl,hb2⟩;go_wp2
    go_ret2
    exact⟨bK.trans (hb2.mono bK.size),.inr ⟨by rw[HW.out];omega,by rw[HW.out];rfl⟩⟩
   have e1:((n:Int)==0)=false:=by simp;omega
   have Qi:kW s' p'=false:=by rw[jL];simp;omega
   go_wp2_with fail
   refine HC.mono ?_;rintro e w2 ⟨rfl,hb2⟩;have fO:=bK.trans (hb2.mono bK.size);have hown2:=aB hown hb2;have oh:=fO.size;have xX:pre.length+1<=s.length:=by have:=(Qe Qi).len;simpa using this
   clear hown;obtain⟨va,vc,rfl, -⟩:=ax.gK hown2;go_wp2_with (at_builtin;refine dt rfl _ _ rfl Tryz.aaZ w.heap.size _ pre.length _ rfl hown2 (.int .i32 r) rfl rfl (by omega) (by omega) (by omega) ?_;intro v' w' RX hg';obtain⟨a',c',rfl, -⟩:=ax.gK RX)
   go_roundw
   case rel=>
    refine⟨pre++[(p',r)],s'.drop n,p'+n,by go_num,by omega,by simpa using xX,fO.grown hg' fO.size (fun k e=>(hown2.lt k e).1),Qe Qi,?_,?_⟩
    ·show s'.drop n=s.drop (p'+n);rw[hs'.out,List.drop_drop]
    rw[List.length_append,List.map_append];rw[Oa]at RX;exact RX
   case measure=>simp[intOf];omega
  obtain rfl:p'=s.length:=by omega
  have hnil:s'=[]:=by rw[hs'.out];simp
  subst hnil;have hw:cr s= -1/\yn s=pre.map fun x=>(x.2:Int):=by unfold cr yn;rw[hch.zB];simp[tY]
  have HW:=af hw;clear hw;obtain⟨va,vc,rfl, -⟩:=ax.gK hown;go_wp2;refine bodyPost_ret (v:=.tuple #[.slice va pre.length vc,.int .i64 (-1)]) (by simp[results,results236,go_sem]) rfl ⟨bK,.inl ⟨HW.1,_,rfl,?_⟩⟩;rw[HW.2,List.length_map];exact hown
end Go.Proofs.YtkghejaimhoboaaGreatDoor
