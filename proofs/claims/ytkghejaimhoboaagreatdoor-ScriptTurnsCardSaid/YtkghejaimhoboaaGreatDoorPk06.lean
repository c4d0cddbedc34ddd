/- Parts of the proof of ScriptTurns. -/
import Derived.Test.YtkghejaimhoboaaGreatDoorPk03
set_option linter.unusedSimpArgs false
set_option linter.unusedVariables false
set_option maxRecDepth 100000
set_option maxHeartbeats 8000000
namespace Go.Proofs.YtkghejaimhoboaaGreatDoor
open Go.RowKit Go.Shelf Go.Proofs.Tryz
section
section
variable {P:Program} {ops:Array Oper} {Q:Exit->Act->World->Prop}
structure Qh (P:Program)(ops:Array Oper)(Q:Exit->Act->World->Prop)(I:(Nat->Bool)->Act->World->Prop)(l:Nat->Bool)(a:Act)(w:World)(i:Nat):Prop where
 out:∃o,ops[i]?=some o/\Region.wanted o (yielded ops a.tmps)=true/\o.wp P a w (fun a' w'=>I (fun j=>if j=i then true else l j) a' w') Q
def zV(listed:Array Bool)(i:Nat):Bool:=listed.getD i true
theorem NU(listed:Array Bool)(i:Nat):zV (listed.setIfInBounds i true)=fun j=>if j=i then true else zV listed j:=by
 funext j;unfold zV;rw[Array.getD_eq_getD_getElem?,Array.getD_eq_getD_getElem?,Array.getElem?_setIfInBounds];by_cases h:i=j
 ·subst h;by_cases hs:i<listed.size<;>simp[hs]
 have h':¬j=i:=fun e=>h e.symm;simp[h,h']
theorem rB{md:Region.Mode}{listed:Array Bool}{i:Nat}:i∈Region.ready md ops listed↔i<ops.size/\zV listed i=false/\∃o,ops[i]?=some o/\∀e∈o.after,Region.binds md e=true->listed.getD e.on false=true:=by
 unfold Region.ready zV;simp only[List.mem_filter,List.mem_range,Bool.and_eq_true,Bool.not_eq_true'];constructor
 ·rintro⟨h1,h2,h3⟩;have ho:ops[i]?=some ops[i]:=Array.getElem?_eq_getElem h1;refine⟨h1,h2,ops[i],ho,fun e he hb=>?_⟩;rw[ho]at h3;simp only[Option.map_some,Option.getD_some,Array.all_eq_true_iff_forall_mem]at h3;have:=h3 e he;rw[hb]at this;simpa using this
 rintro⟨h1,h2,o,ho,h3⟩;refine⟨h1,h2,?_⟩;rw[ho];simp only[Option.map_some,Option.getD_some,Array.all_eq_true_iff_forall_mem];intro e he;cases hb:Region.binds md e with
 | false=>rfl
 | true=>simpa using h3 e he hb
def EZ(ops:Array Oper):Bool:=(List.range ops.size).all fun i=>((ops[i]?).map fun o=>o.after.all fun e=> !Region.binds .any e||decide (e.on<i)).getD true
theorem Cy{listed:Array Bool}(hs:listed.size=ops.size)(hb:EZ ops=true)(h:Region.ready .any ops listed=[]):∀i,i<ops.size->zV listed i=true:=by
 intro i;induction i using Nat.strongRecOn with
 | _ i ih=>
  intro hi;cases hl:zV listed i with
  | true=>rfl
  | false=>
   exfalso;have ho:ops[i]?=some ops[i]:=Array.getElem?_eq_getElem hi;have hm:i∈Region.ready .any ops listed:=rB.2 ⟨hi,hl,ops[i],ho,fun e he jL=>by
    unfold EZ at hb;rw[List.all_eq_true]at hb;have h1:=hb i (List.mem_range.2 hi);rw[ho]at h1;simp only[Option.map_some,Option.getD_some,Array.all_eq_true_iff_forall_mem]at h1;have h2:=h1 e he;rw[jL]at h2;have h3:e.on<i:=by simpa using h2
    have h4:=ih e.on h3 (by omega);unfold zV at h4;rw[Array.getD_eq_getD_getElem?,Array.getElem?_eq_getElem (by omega:e.on<listed.size)]at h4 ⊢;exact h4⟩
   rw[h]at hm;cases hm
def VQ(listed:Array Bool):Nat:=listed.toList.countP fun b=> !b
theorem E0{listed:Array Bool}{i:Nat}(hi:i<listed.size)(h:zV listed i=false):VQ (listed.setIfInBounds i true)+1=VQ listed:=by
 unfold VQ;have hg:listed.toList[i]'(by simpa using hi)=false:=by unfold zV at h;rw[Array.getD_eq_getD_getElem?,Array.getElem?_eq_getElem hi]at h;simpa using h
 rw[Array.toList_setIfInBounds,List.countP_set (by simpa using hi)];have zQ:0<listed.toList.countP fun b=> !b:=List.countP_pos_iff.2 ⟨false,by rw[<-hg];exact List.getElem_mem _,rfl⟩;rw[hg];simp only[Bool.not_false,if_true,Bool.not_true,Bool.false_eq_true,if_false,Nat.add_zero];omega
theorem xk(I:(Nat->Bool)->Act->World->Prop)(hb:EZ ops=true)
  (hs:∀(l:Nat->Bool) a w i,I l a w->i<ops.size->l i=false->(∀o,ops[i]?=some o->∀e∈o.after,Region.binds .any e=true->l e.on=true)->Qh P ops Q I l a w i)
  (he:∀l a w,(∀i,i<ops.size->l i=true)->I l a w->Q .normal a w):∀(fuel:Nat)(listed:Array Bool)(a:Act)(w:World),listed.size=ops.size->VQ listed<=fuel->I (zV listed) a w->wpAny P .any ops Q fuel listed a w
 | 0,listed,a,w,hz,hu,hI=>by
  have hall:∀i,i<ops.size->zV listed i=true:=fun i hi=>by
   cases h:zV listed i with
   | true=>rfl
   | false=>have:=E0 (by omega:i<listed.size) h;omega
  refine⟨?_,he _ a w hall hI⟩;rw[List.eq_nil_iff_forall_not_mem];intro i hi;obtain⟨h1,h2, -⟩:=rB.1 hi;rw[hall i h1]at h2;cases h2
 | fuel+1,listed,a,w,hz,hu,hI=>by
  refine⟨fun h=>he _ a w (Cy hz hb h) hI,fun i hi=>?_⟩;obtain⟨h1,h2,o,ho,h3⟩:=rB.1 hi;obtain⟨o',Zd,hw,hwp⟩:=(hs (zV listed) a w i hI h1 h2 (fun o2 tG e hee jL=>by
   rw[ho]at tG;cases tG;have h4:=h3 e hee jL;unfold zV;rw[Array.getD_eq_getD_getElem?]at h4 ⊢;cases hx:listed[e.on]? with
   | none=>rfl
   | some b=>rw[hx]at h4;exact h4)).out
  unfold wpOp;rw[Zd];dsimp only;rw[if_pos hw];refine .inl (Oper.wp_mono (fun a' w' h=>?_) hwp);refine xk I hb hs he fuel _ a' w' (by simpa using hz) (by have:=E0 (by omega:i<listed.size) h2;omega) ?_;rw[NU];exact h
theorem vX{id:Nat}{a:Act}{w:World}(I:(Nat->Bool)->Act->World->Prop)(hm:P.follows .mixedOrders=true)(hb:EZ ops=true)(h0:I (fun i=>decide (ops.size<=i)) a w.drew)
  (hs:∀(l:Nat->Bool) a w i,I l a w->i<ops.size->l i=false->(∀o,ops[i]?=some o->∀e∈o.after,Region.binds .any e=true->l e.on=true)->Qh P ops Q I l a w i)
  (he:∀l a w,(∀i,i<ops.size->l i=true)->I l a w->Q .normal a w):(Code.region id ops true).wp P Q a w:=by
 refine wp_region_any hm (xk I hb hs he ops.size (Array.replicate ops.size false) a _ (by simp) ?_ ?_)
 ·unfold VQ;rw[Array.toList_replicate,List.countP_replicate];split<;>omega
 have:zV (Array.replicate ops.size false)=fun i=>decide (ops.size<=i):=by
  funext i;unfold zV;rw[Array.getD_eq_getD_getElem?,Array.getElem?_replicate];by_cases h:i<ops.size
  ·have h':¬ops.size<=i:=by omega
   simp[h]
  have h':ops.size<=i:=by omega
  simp[h,h']
 rw[this];exact h0
end
end
end Go.Proofs.YtkghejaimhoboaaGreatDoor
