/- Parts of the proof of ScriptTurns. -/
import Derived.Test.YtkghejaimhoboaaGreatDoorPk23
set_option linter.unusedSimpArgs false
set_option linter.unusedVariables false
set_option maxRecDepth 100000
set_option maxHeartbeats 8000000
namespace Go.Proofs.YtkghejaimhoboaaGreatDoor
open Go.RowKit Go.Shelf Go.Proofs.Tryz
section
attribute [local go_sem] Oper.semAt_some
def Xu(b:Bool):List Value:=[.bool b]
def kj:List Bool->List Int->Int
 | b::bs,x::xs=>(if b then x else 0)+kj bs xs
 | _,_=>0
theorem xK:∀(ts:List Bool)(ls:List Int)(j:Nat)(b:Bool)(x:Int),ts[j]?=some b->ls[j]?=some x->kj (ts.take (j+1)) ls=kj (ts.take j) ls+(if b then x else 0)
 | [],ls,j,b,x,h,_=>by simp at h
 | t::ts,[],j,b,x,_,h=>by simp at h
 |t::ts,l::ls,0,b,x,h,h2=>by simp at h h2;subst h h2;simp[kj]
 |t::ts,l::ls,j+1,b,x,h,h2=>by have:=xK ts ls j b x (by simpa using h) (by simpa using h2);simp only[List.take_succ_cons,kj,this];omega
theorem qK:∀(ts:List Bool)(ls:List Int),(∀z∈ls,0<=z/\z<=1000)->0<=kj ts ls/\kj ts ls<=1000*ts.length
 | [],ls,_=>by simp[kj]
 | t::ts,[],_=>by simp[kj];omega
 |t::ts,l::ls,h=>by have h1:=h l (List.mem_cons_self ..);have h2:=qK ts ls fun z hz=>h z (List.mem_cons_of_mem _ hz);simp only[kj,List.length_cons];split<;>omega
theorem lH(ls:List Int)(ts:List Bool)(la:Option Addr)(ln lc:Nat)(ta:Option Addr)(tn tc b:Nat)(w:World)(hb:Boxed w b 49 (.slice la ln lc))(hl:aW jD 1 w la ln lc ls)(ht:aW Xu 1 w ta tn tc ts)(hn:tn<=ln)(hm:tn<=100)(hz:∀z∈ls,0<=z/\z<=1000):
  Calls prog 243 #[.slice ta tn tc,.pointer (some ⟨b,0,none⟩)] w fun e w'=>e=.returned (.int .i64 (kj ts ls))/\w=w':=by
 have k0:=hb.cell;have HL:=af hl;have HT:=af ht;have HZ:=af hz;have Ff:=af hl.len;have sB:=af ht.len;have hlm:ln<=9223372036854775807:=by have:=hl.le;have:=hl.max;unfold maxLen at this;omega
 clear hl ht hz hb;go_enter func243,ntmps243;go_wp2_with fail
 go_loopw [4,9] (fun v i wr=>∃j:Nat,i=.int .i64 j/\v=.int .i64 (kj (ts.take j) ls)/\j<=tn/\w=wr) (fun _ i _=>tn-(intOf i).toNat)
 case atStart=>exact⟨0,by go_num,by simp[kj],Nat.zero_le _,rfl⟩
 case round=>
  obtain⟨j,rfl,rfl,hj,rfl⟩:=hrel;by_cases hlt:j<tn
  ·obtain⟨x,hx⟩:∃x,ls[j]?=some x:=⟨_,List.getElem?_eq_getElem (by rw[Ff.out];omega)⟩;obtain⟨t,ht⟩:∃x,ts[j]?=some x:=⟨_,List.getElem?_eq_getElem (by rw[sB.out];exact hlt)⟩;obtain⟨g1,o1,ha1,hr1⟩:=HL.range hx;obtain⟨g2,o2,ha2,hr2⟩:=HT.range ht;have c1:=hr1 _ ai 0 (.int .i64 x) rfl;have c2:=hr2 _ ai 0 (.bool t) rfl;simp only[Nat.mul_one,Nat.add_zero]at c1 c2;subst ha1 ha2;have my:=af (xK ts ls j t x ht hx);have h1:=HZ x (List.mem_of_getElem? hx);have h2:=qK (ts.take j) ls HZ.out;have h3:(ts.take j).length<=100:=by simp;omega
   obtain⟨s,hs⟩:=ae (kj (ts.take j) ls);rw[hs]at h2 my ⊢;have hs0:0<=s:=h2.1;have hs1:s<=100000:=by omega
   have hx0:=h1.1;have hx1:=h1.2;clear hr1 hr2 hs h1 h2 h3 ht hx;cases t with
   |true=>
    have TA:Hid (kj (ts.take (j+1)) ls=s+x):=af (by rw[my.out];simp);go_wp2_with fail
    go_roundw
    case rel=>exact⟨j+1,by go_num,by rw[TA],by omega,trivial⟩
    case measure=>simp[intOf];omega
   |false=>
    have TA:Hid (kj (ts.take (j+1)) ls=s):=af (by rw[my.out];simp);go_wp2_with fail
    go_roundw
    case rel=>exact⟨j+1,by go_num,by rw[TA],by omega,trivial⟩
    case measure=>simp[intOf];omega
  obtain rfl:j=tn:=by omega
  rw[List.take_of_length_le (by rw[sB.out];exact Nat.le_refl _)];go_wp2_with fail
  go_ret;exact⟨rfl,rfl⟩
theorem n6(a:Option Addr)(n c:Nat)(w:World):Calls prog 207 #[.slice a n c] w fun e w'=>e=.returned (.func (.func 243) #[] #[.pointer (some ⟨w.heap.size,0,none⟩)])/\w.alloc (.cells #[.slice a n c] 49)=w':=by
 have wA:∀(fn:Fn)(first cap:Array Value)(w:World),(Instr.makeFunc fn first cap).run prog w=.ok (.func fn first cap) w:=fun _ _ _ _=>rfl;go_enter func207,ntmps207;go_wp2_with fail
 go_ret;exact⟨rfl,rfl⟩
end
end Go.Proofs.YtkghejaimhoboaaGreatDoor
