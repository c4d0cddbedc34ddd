/- Parts of the proof of ScriptRaws. -/
import Derived.Test.YtkghejaimhoboaaGreatDoorPr03
set_option linter.unusedSimpArgs false
set_option linter.unusedVariables false
set_option maxRecDepth 100000
set_option maxHeartbeats 8000000
namespace Go.Proofs.YtkghejaimhoboaaGreatDoor
open Go.RowKit Go.Shelf Go.Proofs.Tryz
section
section
variable {P:Program} {ops:Array Oper} {Q:Exit->Act->World->Prop}
structure StepI (P:Program)(ops:Array Oper)(Q:Exit->Act->World->Prop)(I:(Nat->Bool)->Act->World->Prop)(l:Nat->Bool)(a:Act)(w:World)(i:Nat):Prop where
 out:∃o,ops[i]?=some o/\Region.wanted o (yielded ops a.tmps)=true/\o.wp P a w (fun a' w'=>I (fun j=>if j=i then true else l j) a' w') Q
def lst(listed:Array Bool)(i:Nat):Bool:=listed.getD i true
theorem lst_set(listed:Array Bool)(i:Nat):lst (listed.setIfInBounds i true)=fun j=>if j=i then true else lst listed j:=by
 funext j;unfold lst;rw[Array.getD_eq_getD_getElem?,Array.getD_eq_getD_getElem?,Array.getElem?_setIfInBounds];by_cases h:i=j
 ·subst h;by_cases hs:i<listed.size<;>simp[hs]
 have h':¬j=i:=fun e=>h e.symm;simp[h,h']
theorem ready_mem{md:Region.Mode}{listed:Array Bool}{i:Nat}:i∈Region.ready md ops listed↔i<ops.size/\lst listed i=false/\∃o,ops[i]?=some o/\∀e∈o.after,Region.binds md e=true->listed.getD e.on false=true:=by
 unfold Region.ready lst;simp only[List.mem_filter,List.mem_range,Bool.and_eq_true,Bool.not_eq_true'];constructor
 ·rintro⟨h1,h2,h3⟩;have ho:ops[i]?=some ops[i]:=Array.getElem?_eq_getElem h1;refine⟨h1,h2,ops[i],ho,fun e he hb=>?_⟩;rw[ho]at h3;simp only[Option.map_some,Option.getD_some,Array.all_eq_true_iff_forall_mem]at h3;have:=h3 e he;rw[hb]at this;simpa using this
 rintro⟨h1,h2,o,ho,h3⟩;refine⟨h1,h2,?_⟩;rw[ho];simp only[Option.map_some,Option.getD_some,Array.all_eq_true_iff_forall_mem];intro e he;cases hb:Region.binds md e with
 | false=>rfl
 | true=>simpa using h3 e he hb
def backB(ops:Array Oper):Bool:=(List.range ops.size).all fun i=>((ops[i]?).map fun o=>o.after.all fun e=> !Region.binds .any e||decide (e.on<i)).getD true
theorem all_listed{listed:Array Bool}(hs:listed.size=ops.size)(hb:backB ops=true)(h:Region.ready .any ops listed=[]):∀i,i<ops.size->lst listed i=true:=by
 intro i;induction i using Nat.strongRecOn with
 | _ i ih=>
  intro hi;cases hl:lst listed i with
  | true=>rfl
  | false=>
   exfalso;have ho:ops[i]?=some ops[i]:=Array.getElem?_eq_getElem hi;have hm:i∈Region.ready .any ops listed:=ready_mem.2 ⟨hi,hl,ops[i],ho,fun e he hbd=>by
    unfold backB at hb;rw[List.all_eq_true]at hb;have h1:=hb i (List.mem_range.2 hi);rw[ho]at h1;simp only[Option.map_some,Option.getD_some,Array.all_eq_true_iff_forall_mem]at h1;have h2:=h1 e he;rw[hbd]at h2;have h3:e.on<i:=by simpa using h2
    have h4:=ih e.on h3 (by omega);unfold lst at h4;rw[Array.getD_eq_getD_getElem?,Array.getElem?_eq_getElem (by omega:e.on<listed.size)]at h4 ⊢;exact h4⟩
   rw[h]at hm;cases hm
def unl(listed:Array Bool):Nat:=listed.toList.countP fun b=> !b
theorem unl_set{listed:Array Bool}{i:Nat}(hi:i<listed.size)(h:lst listed i=false):unl (listed.setIfInBounds i true)+1=unl listed:=by
 unfold unl;have hg:listed.toList[i]'(by simpa using hi)=false:=by unfold lst at h;rw[Array.getD_eq_getD_getElem?,Array.getElem?_eq_getElem hi]at h;simpa using h
 rw[Array.toList_setIfInBounds,List.countP_set (by simpa using hi)];have hpos:0<listed.toList.countP fun b=> !b:=List.countP_pos_iff.2 ⟨false,by rw[<-hg];exact List.getElem_mem _,rfl⟩;rw[hg];simp only[Bool.not_false,if_true,Bool.not_true,Bool.false_eq_true,if_false,Nat.add_zero];omega
theorem wpAny_inv(I:(Nat->Bool)->Act->World->Prop)(hb:backB ops=true)
  (hs:∀(l:Nat->Bool) a w i,I l a w->i<ops.size->l i=false->(∀o,ops[i]?=some o->∀e∈o.after,Region.binds .any e=true->l e.on=true)->StepI P ops Q I l a w i)
  (he:∀l a w,(∀i,i<ops.size->l i=true)->I l a w->Q .normal a w):∀(fuel:Nat)(listed:Array Bool)(a:Act)(w:World),listed.size=ops.size->unl listed<=fuel->I (lst listed) a w->wpAny P .any ops Q fuel listed a w
 | 0,listed,a,w,hz,hu,hI=>by
  have hall:∀i,i<ops.size->lst listed i=true:=fun i hi=>by
   cases h:lst listed i with
   | true=>rfl
   | false=>have:=unl_set (by omega:i<listed.size) h;omega
  refine⟨?_,he _ a w hall hI⟩;rw[List.eq_nil_iff_forall_not_mem];intro i hi;obtain⟨h1,h2, -⟩:=ready_mem.1 hi;rw[hall i h1]at h2;cases h2
 | fuel+1,listed,a,w,hz,hu,hI=>by
  refine⟨fun h=>he _ a w (all_listed hz hb h) hI,fun i hi=>?_⟩;obtain⟨h1,h2,o,ho,h3⟩:=ready_mem.1 hi;obtain⟨o',ho',hw,hwp⟩:=(hs (lst listed) a w i hI h1 h2 (fun o2 ho2 e hee hbd=>by
   rw[ho]at ho2;cases ho2;have h4:=h3 e hee hbd;unfold lst;rw[Array.getD_eq_getD_getElem?]at h4 ⊢;cases hx:listed[e.on]? with
   | none=>rfl
   | some b=>rw[hx]at h4;exact h4)).out
  unfold wpOp;rw[ho'];dsimp only;rw[if_pos hw];refine .inl (Oper.wp_mono (fun a' w' h=>?_) hwp);refine wpAny_inv I hb hs he fuel _ a' w' (by simpa using hz) (by have:=unl_set (by omega:i<listed.size) h2;omega) ?_;rw[lst_set];exact h
theorem wp_region_inv{id:Nat}{a:Act}{w:World}(I:(Nat->Bool)->Act->World->Prop)(hm:P.follows .mixedOrders=true)(hb:backB ops=true)(h0:I (fun i=>decide (ops.size<=i)) a w.drew)
  (hs:∀(l:Nat->Bool) a w i,I l a w->i<ops.size->l i=false->(∀o,ops[i]?=some o->∀e∈o.after,Region.binds .any e=true->l e.on=true)->StepI P ops Q I l a w i)
  (he:∀l a w,(∀i,i<ops.size->l i=true)->I l a w->Q .normal a w):(Code.region id ops true).wp P Q a w:=by
 refine wp_region_any hm (wpAny_inv I hb hs he ops.size (Array.replicate ops.size false) a _ (by simp) ?_ ?_)
 ·unfold unl;rw[Array.toList_replicate,List.countP_replicate];split<;>omega
 have:lst (Array.replicate ops.size false)=fun i=>decide (ops.size<=i):=by
  funext i;unfold lst;rw[Array.getD_eq_getD_getElem?,Array.getElem?_replicate];by_cases h:i<ops.size
  ·have h':¬ops.size<=i:=by omega
   simp[h]
  have h':ops.size<=i:=by omega
  simp[h,h']
 rw[this];exact h0
end
end
end Go.Proofs.YtkghejaimhoboaaGreatDoor
