/- Parts of the proof of SessionRows: contracts of functions that it reaches, and plain lemmas. No condition of their own. -/
import Derived.Test.YtoinabapaeebfaaGreatDoorPk03
import Derived.BigQuiet
import Derived.Test.YtoinabapaeebfaaGreatDoorPk02
import Derived.Deep.RegionWith
set_option linter.unusedSimpArgs false
set_option linter.unusedVariables false
set_option maxRecDepth 100000
set_option maxHeartbeats 8000000
namespace Go.Proofs.YtoinabapaeebfaaGreatDoor
open Go.RowKit Go.Shelf
section
abbrev Fact := Nat × (World -> Prop)
section
variable {P : Program} {ops : Array Oper}
def FR (facts : List Fact) (listed : Array Bool) (w : World) : Prop := ∀ f ∈ facts, listed.getD f.1 false = false -> f.2 w
theorem FR.get {md : Region.Mode} {facts : List Fact} {listed : Array Bool} {w : World} {i : Nat} (hc : ClosedL md ops listed) (hn : listed.getD i true = false) (h : FR facts listed w) (k : Nat) (p : World -> Prop)
  (hm : (k, p) ∈ facts) (hw : waits md ops k i = true) : p w := by
 refine h _ hm ?_
 dsimp only
 unfold waits at hw
 cases hk : ops[k]? with
 | none =>
  have h1 := Array.getElem?_eq_none_iff.1 hk
  have h2 : listed[k]? = none := Array.getElem?_eq_none_iff.2 (by rw [hc.1]; exact h1)
  rw [Array.getD_eq_getD_getElem?, h2]
  rfl
 | some o =>
  rw [hk] at hw
  obtain ⟨e, he, hb⟩ := Array.any_eq_true'.1 hw
  simp only [Bool.and_eq_true, beq_iff_eq] at hb
  cases hl : listed.getD k false with
  | false => rfl
  | true =>
   have h1 := hc.2 k o hk hl e he hb.1
   rw [hb.2] at h1
   rcases Nat.lt_or_ge i listed.size with h' | h'
   ·simp [h'] at hn h1; rw [hn] at h1; cases h1
   ·simp [Array.getElem?_eq_none h'] at h1
def wpAnyR (P : Program) (md : Region.Mode) (ops : Array Oper) (Q : Exit -> Act -> World -> Prop) (facts : List Fact) : Nat -> Array Bool -> Act -> World -> Prop
 | 0, listed, a, w => Region.ready md ops listed = [] /\ Q .normal a w
 | fuel + 1, listed, a, w =>
  (Region.ready md ops listed = [] -> Q .normal a w) /\
  ∀ i ∈ Region.ready md ops listed, wpOp P ops Q i (fun a' w' => FR facts (listed.setIfInBounds i true) w' /\ wpAnyR P md ops Q facts fuel (listed.setIfInBounds i true) a' w') a w
variable {Q : Exit -> Act -> World -> Prop} {md : Region.Mode}
theorem wpAny_of_R {facts : List Fact} : ∀ (fuel : Nat) (listed : Array Bool) (a : Act) (w : World), wpAnyR P md ops Q facts fuel listed a w -> wpAny P md ops Q fuel listed a w
 | 0, _, _, _, h => h
 | fuel + 1, _, _, _, h => ⟨h.1, fun i hi => wpOp_mono (fun a' w' h' => wpAny_of_R fuel _ a' w' h'.2) (h.2 i hi)⟩
def upR (md : Region.Mode) (ops : Array Oper) (facts : List Fact) (i : Nat) (w : World) : Prop := ∃ listed, ClosedL md ops listed /\ listed.getD i true = false /\ FR facts listed w
theorem upR.get {facts : List Fact} {i : Nat} {w : World} (h : upR md ops facts i w) (k : Nat) (p : World -> Prop) (hm : (k, p) ∈ facts) (hw : waits md ops k i = true) : p w := by
 obtain ⟨listed, h1, h2, h3⟩ := h
 exact h3.get h1 h2 k p hm hw
theorem FR.set {facts : List Fact} {listed : Array Bool} {w : World} {i : Nat} (hk : ∀ f ∈ facts, f.1 ≠ i) : FR facts (listed.setIfInBounds i true) w ↔ FR facts listed w := by
 constructor
 ·intro h f hf hl; exact h f hf (by rw [getD_set_ne false (Ne.symm (hk f hf))]; exact hl)
 ·intro h f hf hl; exact h f hf (by rw [getD_set_ne false (Ne.symm (hk f hf))] at hl; exact hl)
theorem wpAnyR_first {facts : List Fact} {i : Nat} {oi : Oper} {v : Value} (hi : ops[i]? = some oi) (hsel : ∀ (j : Nat) (o : Oper) cs b, ops[j]? = some o -> o.op ≠ .select cs b)
  (hQ : ∀ c a w, Q (.panic c) (a.put oi.dst v) w -> Q (.panic c) a w) (hk : ∀ f ∈ facts, f.1 ≠ i) :
  ∀ (fuel : Nat) (listed : Array Bool) (a : Act) (w : World),
   (∀ j oj, ops[j]? = some oj -> j ≠ i -> listed.getD j true = false -> (∀ e ∈ oj.after, Region.binds md e = true -> e.on ≠ i) -> oi.apart ops oj = true) ->
   i ∈ Region.ready md ops listed -> YieldsIf P ops (upR md ops facts i) oi v a -> ClosedL md ops listed -> FR facts listed w ->
   wpAnyR P md ops Q facts fuel (listed.setIfInBounds i true) (a.put oi.dst v) w -> wpAnyR P md ops Q facts (fuel + 1) listed a w := by
 intro fuel
 induction fuel with
 | zero =>
  intro listed a w _ hr hy hcl hS H
  have hn := (mem_ready.1 hr).1
  refine ⟨fun h => (by rw [h] at hr; cases hr), fun j hj => ?_⟩
  by_cases hji : j = i
  ·subst hji; exact hy.wpOp hi ⟨listed, hcl, hn, hS⟩ ⟨(FR.set hk).2 hS, H⟩
  ·have := ready_mono hj hji
   rw [H.1] at this
   cases this
 | succ fuel ih =>
  intro listed a w hfree hr hy hcl hS H
  have hn := (mem_ready.1 hr).1
  refine ⟨fun h => (by rw [h] at hr; cases hr), fun j hj => ?_⟩
  by_cases hji : j = i
  ·subst hji; exact hy.wpOp hi ⟨listed, hcl, hn, hS⟩ ⟨(FR.set hk).2 hS, H⟩
  ·have h1 := H.2 j (ready_mono hj hji)
   obtain ⟨hjun, oj, hoj, hall⟩ := mem_ready.1 hj
   have hnot : ∀ e ∈ oj.after, Region.binds md e = true -> e.on ≠ i := fun e he hb heq => by
    have h1 := hall e he hb
    have h0 := hn
    rw [heq] at h1
    rcases Nat.lt_or_ge i listed.size with h' | h'
    ·simp [h'] at h0 h1; rw [h0] at h1; cases h1
    ·simp [Array.getElem?_eq_none h'] at h1
   have h2 := wpOp_putIf hoj (hfree j oj hoj hji hjun hnot) (fun cs b => hsel i oi cs b hi) (fun cs b => hsel j oj cs b hoj) hQ hy h1
   have hfree' : ∀ k ok, ops[k]? = some ok -> k ≠ i -> (listed.setIfInBounds j true).getD k true = false ->
     (∀ e ∈ ok.after, Region.binds md e = true -> e.on ≠ i) -> oi.apart ops ok = true := fun k ok hk hki hun hno => by
    refine hfree k ok hk hki ?_ hno
    by_cases hjk : j = k
    ·subst hjk; exact hjun
    ·rw [getD_set_ne true hjk] at hun; exact hun
   refine wpOp_mono (fun a' w' h3 => ?_) h2
   have h4 := h3.2.1
   rw [Array.setIfInBounds_comm _ _ (Ne.symm hji), FR.set hk] at h4
   refine ⟨h4, ih (listed.setIfInBounds j true) a' w' hfree' (ready_mono hr (Ne.symm hji)) h3.1 (hcl.step hj) h4 ?_⟩
   rw [Array.setIfInBounds_comm _ _ hji]
   exact h3.2.2
/-! ### The state of a walk: what has come up -/
def listedOf (ops : Array Oper) (taken : List Nat) : Array Bool := taken.foldr (fun i l => l.setIfInBounds i true) (Array.replicate ops.size false)
theorem listedOf_get (taken : List Nat) (k : Nat) (hk : ∀ i ∈ taken, i < ops.size) : (listedOf ops taken).getD k false = taken.contains k := by
 induction taken with
 | nil =>
  simp only [listedOf, List.foldr_nil, Array.getD_eq_getD_getElem?, List.contains_nil]
  rcases Nat.lt_or_ge k ops.size with h | h
  ·simp [h]
  ·rw [Array.getElem?_eq_none (by simpa using h)]; rfl
 | cons i t ih =>
  have h1 := ih (fun j hj => hk j (List.mem_cons_of_mem _ hj))
  have h2 : (listedOf ops t).size = ops.size := by
   clear ih h1 hk;induction t with
   | nil => simp [listedOf]
   | cons j t ih => simp only [listedOf, List.foldr_cons, Array.size_setIfInBounds] at ih ⊢; exact ih
  show ((listedOf ops t).setIfInBounds i true).getD k false = _
  by_cases hik : i = k
  ·subst hik
   have h3 := hk i (List.mem_cons_self ..)
   simp [Array.getD_eq_getD_getElem?, h2, h3]
  ·rw [getD_set_ne false hik, h1]
   simp [Ne.symm hik]
def HoldR (taken : List Nat) : List Fact -> World -> Prop
 | [], _ => True
 | f :: fs, w => (taken.contains f.1 = false -> f.2 w) /\ HoldR taken fs w
theorem HoldR.mem {taken : List Nat} {facts : List Fact} {w : World} (h : HoldR taken facts w) : ∀ f ∈ facts, taken.contains f.1 = false -> f.2 w := by
 induction facts with
 | nil => intro f hf; cases hf
 | cons g fs ih =>
  intro f hf hc
  rcases List.mem_cons.1 hf with rfl | hf
  ·exact h.1 hc
  ·exact ih h.2 f hf hc
def atR (P : Program) (ops : Array Oper) (KQ : Act -> World -> Prop) (facts : List Fact) (taken : List Nat) (a : Act) (w : World) : Prop :=
 (∀ i ∈ taken, i < ops.size) -> ClosedL .any ops (listedOf ops taken) -> FR facts (listedOf ops taken) w -> wpAnyR P .any ops (onlyN KQ) facts (ops.size - taken.length) (listedOf ops taken) a w
def takeB (ops : Array Oper) (fk : List Nat) (taken : List Nat) (i : Nat) : Bool :=
 Region.noSelect ops && Region.free .any ops (listedOf ops taken) i && (Region.ready .any ops (listedOf ops taken)).contains i && decide (taken.length < ops.size) && !fk.contains i
def plainOp : Op -> Bool
 | .move _ | .assign _ | .pick .. | .load .. | .binOp .. | .unOp .. | .convert .. | .slice .. | .fieldAddr .. | .field .. | .indexAddr .. | .index .. | .lookup .. | .extract .. | .typeAssert .. | .build .. | .makeInterface .. => true
 | .call { callee := .builtin .len, .. } | .call { callee := .builtin .cap, .. } | .call { callee := .builtin .min, .. } | .call { callee := .builtin .max, .. } => true
 | _ => false
theorem run_v {s : Sem Value} {w w' : World} {n : Next} (h : (do pure (Next.value (<- s)) : Sem Next).run P w = .ok n w') : ∃ v, n = .value v := by
 rw [Sem.run_bind] at h
 cases hs : s.run P w with
 | ok x w1 => rw [hs] at h; simp at h; exact ⟨x, h.1.symm⟩
 | halt x w1 => rw [hs] at h; simp at h
theorem plain_value {o : Oper} (hp : plainOp o.op = true) (ev : Operand -> Value) (w : World) (n : Next) (w' : World) (h : (execOp ev o).run P w = .ok n w') : ∃ v, n = .value v := by
 obtain ⟨dst, op, type, pos, after, guard⟩ := o
 dsimp only at hp
 unfold execOp at h
 cases op <;> dsimp only at h hp <;> try first | exact run_v h | (exfalso; revert hp; exact Bool.false_ne_true)
 case move => simp at h; exact ⟨_, h.1.symm⟩
 case assign => simp at h; exact ⟨_, h.1.symm⟩
 case pick c x y =>
  rw [Sem.run_bind] at h
  cases hs : (asBool (ev c)).run P w with
  | ok x w1 => rw [hs] at h; simp at h; exact ⟨_, h.1.symm⟩
  | halt x w1 => rw [hs] at h; simp at h
 case call c =>
  obtain ⟨callee, args, argTypes⟩ := c
  cases callee with
  | value f => exact absurd hp (by simp [plainOp])
  | invoke r m => exact absurd hp (by simp [plainOp])
  | builtin b =>
   simp only [resolve, Sem.run_bind, Sem.run_pure, Result.andThen_ok, invoke] at h
   cases b <;> first | exact run_v h | exact absurd hp (by simp [plainOp])
variable {KQ : Act -> World -> Prop} {facts : List Fact} {taken : List Nat} {a : Act} {w : World}
theorem readyR {oi : Oper} (i : Nat) (hi : ops[i]? = some oi) (hB : takeB ops (facts.map (·.1)) taken i = true) (v : Value) (hy : YieldsIf P ops (upR .any ops facts i) oi v a)
  (h : atR P ops KQ facts (i :: taken) (a.put oi.dst v) w) : atR P ops KQ facts taken a w := by
 intro ht hcl hfr
 simp only [takeB, Bool.and_eq_true, decide_eq_true_eq, Bool.not_eq_true'] at hB
 obtain ⟨⟨⟨⟨b1, b2⟩, b3⟩, b4⟩, b5⟩ := hB
 have hr : i ∈ Region.ready .any ops (listedOf ops taken) := by simpa using b3
 have hlt : i < ops.size := (Array.getElem?_eq_some_iff.1 hi).1
 have hk : ∀ f ∈ facts, f.1 ≠ i := fun f hf he => by
  have : (facts.map (·.1)).contains i = true := List.contains_iff_mem.2 (List.mem_map.2 ⟨f, hf, he⟩)
  rw [b5] at this; cases this
 have h1 := h (fun j hj => by exact (List.mem_cons.1 hj).elim (fun e => e ▸ hlt) (ht j)) (hcl.step hr) ((FR.set hk).2 hfr)
 rw [show ops.size - taken.length = (ops.size - (i :: taken).length) + 1 from by simp only [List.length_cons]; omega]
 exact wpAnyR_first hi (Region.noSelect_spec b1) (fun _ _ _ h => h) hk _ _ a w (Region.free_spec hi b2) hr hy hcl hfr h1
theorem takeQ (i : Nat) {oi : Oper} (hi : ops[i]? = some oi) (hB : takeB ops (facts.map (·.1)) taken i = true) (hp : plainOp oi.op = true) (hw : Region.wanted oi (yielded ops a.tmps) = true)
  (h : ∀ K : Act -> Prop, (∀ a', atR P ops KQ facts (i :: taken) a' w -> K a') -> oi.quiet P a (fun _ => True) K) : atR P ops KQ facts taken a w := by
 obtain ⟨v, hv, hn⟩ := h (fun a' => atR P ops KQ facts (i :: taken) a' w) (fun _ h => h)
 refine readyR i hi hB v (.inl ⟨hw, fun w' hu => ?_⟩) hn
 have h1 := hv w' trivial
 unfold Oper.quietAt at h1
 have h2 := plain_value (P := P) hp a.eval w'
 generalize (execOp a.eval oi).run P w' = r at *
 cases r with
 | ok n w2 =>
  obtain ⟨u, rfl⟩ := h2 n w2 rfl
  simp only [Oper.quietUpon] at h1
  rw [h1.1, h1.2]
 | halt x w2 => exact h1.elim
theorem readQ (i : Nat) {oi : Oper} (hi : ops[i]? = some oi) (hB : takeB ops (facts.map (·.1)) taken i = true) (v : Value) (hw : Region.wanted oi (yielded ops a.tmps) = true)
  (hr : ∀ w', upR .any ops facts i w' -> (execOp a.eval oi).run P w' = .ok (.value v) w') (h : atR P ops KQ facts (i :: taken) (a.put oi.dst v) w) : atR P ops KQ facts taken a w :=
 readyR i hi hB v (.inl ⟨hw, hr⟩) h
theorem loadQ (i : Nat) {oi : Oper} (hi : ops[i]? = some oi) (hB : takeB ops (facts.map (·.1)) taken i = true) (hw : Region.wanted oi (yielded ops a.tmps) = true) {t : TypeId} {x : Operand} (hop : oi.op = .load t x) {u : Value} (hx : a.eval x = u)
  (n : Nat) {k : Nat} {p : World -> Prop} (hf : facts[n]? = some (k, p)) (hk : waits .any ops k i = true) (v : Value) (hr : ∀ w', p w' -> (Instr.loadAt t u).run P w' = .ok v w')
  (h : atR P ops KQ facts (i :: taken) (a.put oi.dst v) w) : atR P ops KQ facts taken a w := by
 refine readyR i hi hB v (.inl ⟨hw, fun w' hu => ?_⟩) h
 have h1 := hr w' (hu.get k p (List.mem_of_getElem? hf) hk)
 simp only [execOp, hop, hx, Sem.run_bind, h1, Result.andThen_ok, Sem.run_pure]
theorem skipQ (i : Nat) {oi : Oper} (hi : ops[i]? = some oi) (hB : takeB ops (facts.map (·.1)) taken i = true) (hw : Region.wanted oi (yielded ops a.tmps) = false)
  (h : atR P ops KQ facts (i :: taken) (a.put oi.dst undef) w) : atR P ops KQ facts taken a w :=
 readyR i hi hB undef (.inr ⟨hw, rfl⟩) h
structure Both (A B : Prop) : Prop where
 one : A
 two : B
theorem stepQ (j : Nat) {oj : Oper} (hj : ops[j]? = some oj) (hr : Region.ready .any ops (listedOf ops taken) = [j]) (hlt : taken.length < ops.size) (hw : Region.wanted oj (yielded ops a.tmps) = true)
  (h : ∀ K : Act -> World -> Prop, (∀ a' w', Both (HoldR (j :: taken) facts w') (atR P ops KQ facts (j :: taken) a' w') -> K a' w') -> oj.wp P a w K (onlyN KQ)) : atR P ops KQ facts taken a w := by
 intro ht hcl hfr
 rw [show ops.size - taken.length = (ops.size - (j :: taken).length) + 1 from by simp only [List.length_cons]; omega]
 have hlj : j < ops.size := (Array.getElem?_eq_some_iff.1 hj).1
 have hrj : j ∈ Region.ready .any ops (listedOf ops taken) := by rw [hr]; exact List.mem_singleton.2 rfl
 have ht' : ∀ i ∈ j :: taken, i < ops.size := fun i hi => by exact (List.mem_cons.1 hi).elim (fun e => e ▸ hlj) (ht i)
 refine ⟨fun h0 => absurd (hr.symm.trans h0) (by simp), fun i hi => ?_⟩
 rw [hr] at hi
 obtain rfl := List.mem_singleton.1 hi
 unfold wpOp
 rw [hj]
 dsimp only
 rw [if_pos hw]
 refine .inl (h _ fun a' w' hb => ?_)
 have hf : FR facts (listedOf ops (i :: taken)) w' := fun f hf hl => hb.one.mem f hf (by rw [listedOf_get _ _ ht'] at hl; exact hl)
 exact ⟨hf, hb.two ht' (hcl.step hrj) hf⟩
theorem stepN (j : Nat) {oj : Oper} (hj : ops[j]? = some oj) (hr : Region.ready .any ops (listedOf ops taken) = [j]) (hlt : taken.length < ops.size) (hw : Region.wanted oj (yielded ops a.tmps) = true)
  (h : ∀ K : Act -> World -> Prop, (∀ a' w', atR P ops KQ [] (j :: taken) a' w' -> K a' w') -> oj.wp P a w K (onlyN KQ)) : atR P ops KQ [] taken a w :=
 stepQ j hj hr hlt hw fun K hK => h K fun a' w' h' => hK a' w' ⟨trivial, h'⟩
theorem FR.nil {listed : Array Bool} : FR [] listed w := fun f hf => by cases hf
theorem doneQ (hr : Region.ready .any ops (listedOf ops taken) = []) (h : KQ a w) : atR P ops KQ facts taken a w := by
 intro _ _ _
 cases hn : ops.size - taken.length with
 | zero => exact ⟨hr, h⟩
 | succ n => exact ⟨fun _ => h, by rw [hr]; intro i hi; cases hi⟩
def AllF : List Fact -> World -> Prop
 | [], _ => True
 | f :: fs, w => f.2 w /\ AllF fs w
theorem AllF.mem {facts : List Fact} {w : World} (h : AllF facts w) : ∀ f ∈ facts, f.2 w := by
 induction facts with
 | nil => intro f hf; cases hf
 | cons g fs ih =>
  intro f hf
  rcases List.mem_cons.1 hf with rfl | hf
  ·exact h.1
  ·exact ih h.2 f hf
theorem regionQ {id : Nat} {a : Act} {w : World} {Q : Exit -> Act -> World -> Prop} (facts : List Fact) (hm : P.follows .mixedOrders = true) (h0 : AllF facts w.drew)
  (h : ∀ KQ, Shut (∀ a w, Q .normal a w -> KQ a w) -> atR P ops KQ facts [] a w.drew) : (Code.region id ops true).wp P Q a w := by
 refine wp_K fun KQ hKQ => ?_
 refine wp_region_any hm (wpAny_of_R _ _ _ _ (h KQ hKQ (fun _ hi => by cases hi) ClosedL.start (fun f hf _ => h0.mem f hf)))
theorem regionQIn {l : Nat} {id : Nat} {a : Act} {w : World} {Q : Exit -> Act -> World -> Prop} (facts : List Fact) (hm : P.follows .mixedOrders = true) (hd : noDefer ops = true) (h0 : AllF facts w.drew)
  (h : ∀ KQ, Shut (∀ a w, Q .normal a w -> KQ a w) -> atR P ops KQ facts [] a w.drew) : (Code.region id ops true).wpIn (Fence.wide.inRound l) 0 P Q a w := by
 refine wpIn_K fun KQ hKQ => ?_
 exact wpIn_region_any hm (wpAnyIn_of_any (noDefer_spec hd) (fun ⟨a, w, h⟩ => onlyN_outgrown KQ a w h) _ _ _ _ (wpAny_of_R _ _ _ _ (h KQ hKQ (fun _ hi => by cases hi) ClosedL.start (fun f hf _ => h0.mem f hf))))
end
theorem belw {X : Prop} (h : X := by (repeat (first | exact Below.refl _ _ | (refine Below.setCell ?_ (by simp <;> omega) _) | (refine Below.alloc ?_ (by simp <;> omega) _) | refine Below.drew ?_))) : X := h
theorem GO : (∀ {α : Type} (l : List α) (i : Nat) (h : i < l.toArray.size), l.toArray[i]'h = l[i]'(by simpa using h)) /\ (∀ {α : Type} (a : α) (l : List α) (h : 0 < (a :: l).length), (a :: l)[0]'h = a) /\
  (∀ {α : Type} (a : α) (l : List α) (i : Nat) (h : i + 1 < (a :: l).length), (a :: l)[i + 1]'h = l[i]'(by simpa using h)) :=
 ⟨fun l i h => List.getElem_toArray h, fun _ _ _ => rfl, fun _ _ _ _ => rfl⟩
theorem PT : (∀ (a : Act) (d : Tmp) (v : Value), a.put (some d) v = { a with tmps := a.tmps.setIfInBounds d v }) /\ (∀ (a : Act) (v : Value), a.put none v = a) /\
  (∀ {α : Type} (l : List α) (i : Nat) (x : α), l.toArray.setIfInBounds i x = (l.set i x).toArray) /\ (∀ {α : Type} (a x : α) (l : List α), (a :: l).set 0 x = x :: l) /\ (∀ {α : Type} (a x : α) (l : List α) (i : Nat), (a :: l).set (i + 1) x = a :: l.set i x) /\
  (∀ {α : Type} (l : List α) (i : Nat) (h : i < l.toArray.size), l.toArray[i]'h = l[i]'(by simpa using h)) /\ (∀ {α : Type} (a : α) (l : List α) (h : 0 < (a :: l).length), (a :: l)[0]'h = a) /\
  (∀ {α : Type} (a : α) (l : List α) (i : Nat) (h : i + 1 < (a :: l).length), (a :: l)[i + 1]'h = l[i]'(by simpa using h)) :=
 ⟨fun _ _ _ => rfl, fun _ _ => rfl, fun l i x => List.setIfInBounds_toArray .., fun _ _ _ => rfl, fun _ _ _ _ => rfl, GO.1, GO.2.1, GO.2.2⟩
structure TL (l : List Nat) (X : Prop) : Prop where
 out : X
section
variable {P : Program} {ops : Array Oper} {KQ : Act -> World -> Prop} {facts : List Fact} {taken : List Nat} {a : Act} {w : World}
theorem TL.cons {i : Nat} {l : List Nat} {oi : Oper} (hi : ops[i]? = some oi) (hB : takeB ops (facts.map (·.1)) taken i = true) (hp : plainOp oi.op = true) (hw : Region.wanted oi (yielded ops a.tmps) = true)
  (h : ∀ K : Act -> Prop, (∀ a', TL l (atR P ops KQ facts (i :: taken) a' w) -> K a') -> oi.quiet P a (fun _ => True) K) : TL (i :: l) (atR P ops KQ facts taken a w) :=
 ⟨takeQ i hi hB hp hw fun K hK => h K fun a' h' => hK a' h'.out⟩
theorem TL.nil {X : Prop} (h : X) : TL [] X := ⟨h⟩
theorem tQ (l : List Nat) {X Q : Prop} (q : Q) (h : Q -> TL l X := by (intro hq; (repeat (refine TL.cons rfl (by kernel_rfl) rfl (by kernel_rfl) fun K hK => ?_; simp only [GO]; go_big_quiet_op; refine hK _ ?_; clear hK K)); exact TL.nil hq)) : X := (h q).out
theorem TL.skip {i : Nat} {oi : Oper} (hi : ops[i]? = some oi) (hB : takeB ops (facts.map (·.1)) taken i = true) (hw : Region.wanted oi (yielded ops a.tmps) = false)
  (h : atR P ops KQ facts (i :: taken) (a.put oi.dst undef) w) : TL [i] (atR P ops KQ facts taken a w) := ⟨skipQ i hi hB hw h⟩
theorem uQ (i : Nat) {X Q : Prop} (q : Q) (h : Q -> TL [i] X := by (intro hq; refine TL.skip rfl (by kernel_rfl) (by kernel_rfl) ?_; simp only [PT]; exact hq)) : X := (h q).out
theorem sQ (j : Nat) {oj : Oper} (h : ∀ K : Act -> World -> Prop, (∀ a' w', Both (HoldR (j :: taken) facts w') (atR P ops KQ facts (j :: taken) a' w') -> K a' w') -> oj.wp P a w K (onlyN KQ))
  (hj : ops[j]? = some oj := by rfl) (hr : Region.ready .any ops (listedOf ops taken) = [j] := by kernel_rfl) (hlt : taken.length < ops.size := by decide) (hw : Region.wanted oj (yielded ops a.tmps) = true := by kernel_rfl) : atR P ops KQ facts taken a w :=
 stepQ j hj hr hlt hw h
theorem sN (j : Nat) {oj : Oper} (h : ∀ K : Act -> World -> Prop, (∀ a' w', atR P ops KQ [] (j :: taken) a' w' -> K a' w') -> oj.wp P a w K (onlyN KQ))
  (hj : ops[j]? = some oj := by rfl) (hr : Region.ready .any ops (listedOf ops taken) = [j] := by kernel_rfl) (hlt : taken.length < ops.size := by decide) (hw : Region.wanted oj (yielded ops a.tmps) = true := by kernel_rfl) : atR P ops KQ [] taken a w :=
 stepN j hj hr hlt hw h
theorem dQ (h : KQ a w) (hr : Region.ready .any ops (listedOf ops taken) = [] := by kernel_rfl) : atR P ops KQ facts taken a w := doneQ hr h
structure LL (i n : Nat) (X : Prop) : Prop where
 out : X
theorem LL.load {i n : Nat} {oi : Oper} (hi : ops[i]? = some oi) (hB : takeB ops (facts.map (·.1)) taken i = true) (hw : Region.wanted oi (yielded ops a.tmps) = true) {t : TypeId} {x : Operand} (hop : oi.op = .load t x) {u : Value} (hx : a.eval x = u)
  {k : Nat} {p : World -> Prop} (hf : facts[n]? = some (k, p)) (hk : waits .any ops k i = true) (v : Value) (hr : ∀ w', p w' -> (Instr.loadAt t u).run P w' = .ok v w')
  (h : atR P ops KQ facts (i :: taken) (a.put oi.dst v) w) : LL i n (atR P ops KQ facts taken a w) := ⟨loadQ i hi hB hw hop hx n hf hk v hr h⟩
theorem lQ (i n : Nat) {X Q : Prop} (q : Q) (h : Q -> LL i n X := by (intro hq; refine LL.load rfl (by kernel_rfl) (by kernel_rfl) rfl rfl rfl (by kernel_rfl) _ (fun w' hf => by (go_simp <;> with_reducible rfl)) ?_; simp only [PT]; exact hq)) : X := (h q).out
theorem lR (i n : Nat) {oi : Oper} {t : TypeId} {x : Operand} {u : Value} {k : Nat} {p : World -> Prop} {v : Value} (hi : ops[i]? = some oi) (hop : oi.op = .load t x) (hx : a.eval x = u) (hf : facts[n]? = some (k, p)) (hr : ∀ w', p w' -> (Instr.loadAt t u).run P w' = .ok v w')
  (h : atR P ops KQ facts (i :: taken) (a.put oi.dst v) w) (hB : takeB ops (facts.map (·.1)) taken i = true := by kernel_rfl) (hw : Region.wanted oi (yielded ops a.tmps) = true := by kernel_rfl) (hk : waits .any ops k i = true := by kernel_rfl) : atR P ops KQ facts taken a w :=
 loadQ i hi hB hw hop hx n hf hk v hr h
end
end
section
def leads : List Int := [0, 0, 192, 224, 240]
def CL : Array Value := #[.int .i32 0, .int .u8 0, .int .i32 128, .int .u8 0, .int .i32 2048, .int .u8 192, .int .i32 65536, .int .u8 224, .int .i32 1114112, .int .u8 240]
theorem cls_at (k : Nat) (h : k < 5) (w : World) : (Instr.index 325 (.agg CL) (.int .i64 k)).run Tryz.prog w = .ok (.agg #[.int .i32 (belows[k]?.getD 0), .int .u8 (leads[k]?.getD 0)]) w := by
 rcases (show k = 0 \/ k = 1 \/ k = 2 \/ k = 3 \/ k = 4 by omega) with rfl | rfl | rfl | rfl | rfl
 ·exact cls_0 w
 ·exact cls_1 w
 ·exact cls_2 w
 ·exact cls_3 w
 ·exact cls_4 w
theorem str_size (s : List UInt8) : ByteArray.size ⟨s.toArray⟩ = s.length := by simp [ByteArray.size]
theorem str_idx (s : List UInt8) (i : Nat) (h : i < s.length) (W : World) : (Instr.index 9 (.string ⟨s.toArray⟩) (.int .i64 i)).run Tryz.prog W = .ok (.int .u8 (at8 s i)) W := by
 rw [run_index_string _ 9 _ _ _ Tryz.underlying9, dif_pos (by rw [str_size]; omega)]
 simp [at8, h, ByteArray.getElem_eq_getElem_data]
theorem str_extract (s : List UInt8) (i j : Nat) : (ByteArray.mk s.toArray).extract i j = ⟨((s.take j).drop i).toArray⟩ := by
 apply ByteArray.ext
 rw [ByteArray.data_extract]
 simp [List.drop_take]
theorem str_cut (s : List UInt8) (i j : Nat) (hi : i <= j) (hj : j <= s.length) (W : World) : (Instr.slice 9 (.string ⟨s.toArray⟩) (some (.int .i64 i)) (some (.int .i64 j)) none).run Tryz.prog W = .ok (.string ⟨((s.take j).drop i).toArray⟩) W := by
 rw [run_slice_string _ 9 _ _ _ _ _ Tryz.underlying9 (by omega) (by omega) (by rw [str_size]; omega)]
 simp [str_extract]
theorem str_to (s : List UInt8) (j : Nat) (hj : j <= s.length) (W : World) : (Instr.slice 9 (.string ⟨s.toArray⟩) none (some (.int .i64 j)) none).run Tryz.prog W = .ok (.string ⟨(s.take j).toArray⟩) W := by
 rw [run_slice_string_h (ht := Tryz.underlying9) (h0 := by omega) (h2 := by rw [str_size]; omega)]
 simp [str_extract]
theorem str_from (s : List UInt8) (i : Nat) (hi : i <= s.length) (W : World) : (Instr.slice 9 (.string ⟨s.toArray⟩) (some (.int .i64 i)) none none).run Tryz.prog W = .ok (.string ⟨(s.drop i).toArray⟩) W := by
 rw [run_slice_string_l (ht := Tryz.underlying9) (h0 := by omega) (h1 := by rw [str_size]; omega)]
 rw [str_size]
 simp [str_extract]
theorem bytesRow_cell (w0 : World) (bd : List UInt8) (cap : Nat) (t : TypeId) (fz : Nat × Nat) (j : Nat) (h : j < bd.length) :
  (w0.alloc (.cells (bytesRow ⟨bd.toArray⟩ cap) t fz)).cell? ⟨w0.heap.size, j, none⟩ = some (.int .u8 (at8 bd j)) := by
 have h1 := World.alloc_heap_new w0 (.cells (bytesRow ⟨bd.toArray⟩ cap) t fz)
 simp only [World.cell?, h1]
 simp [bytesRow, at8, Array.getElem?_append, h]
theorem at8_body (s : List UInt8) (k j : Nat) (h : j < k - 1) : at8 (s.take k).tail j = at8 s (j + 1) := by
 unfold at8
 rw [List.getElem?_tail, List.getElem?_take_of_lt (by omega)]
theorem utf_may_is (r : Nat) (b : Bool) (h : mayR r = b) (w : World) : Calls Tryz.prog 252 #[.int .i32 r] w fun e w' => e = .returned (.bool b) /\ w = w' := h ▸ utf_may r w
def mdR (k : Nat) : Nat := if k = 1 then 256 else if k = 2 then 64 else if k = 3 then 32 else 16
def accV (k : Nat) (s : List UInt8) : Nat -> Nat
 | 0 => at8 s 0 % mdR k
 | j + 1 => accV k s j * 64 + at8 s (j + 1) % 64
theorem accV_lt (k : Nat) (s : List UInt8) (j : Nat) (h : j <= 3) : accV k s j < 67108864 := by
 have h0 := at8_lt s 0
 have h1 : at8 s 0 % mdR k <= at8 s 0 := Nat.mod_le _ _
 rcases (show j = 0 \/ j = 1 \/ j = 2 \/ j = 3 by omega) with rfl | rfl | rfl | rfl <;> simp only [accV] <;> omega
theorem accV_val (k : Nat) (s : List UInt8) (h1 : 1 <= k) (h4 : k <= 4) : accV k s (k - 1) = valR k s := by
 have h0 := at8_lt s 0
 rcases (show k = 1 \/ k = 2 \/ k = 3 \/ k = 4 by omega) with rfl | rfl | rfl | rfl <;> simp [accV, valR, mdR] <;> omega
theorem u8_andNot (k : Nat) (h1 : 1 <= k) (h4 : k <= 4) (x : Nat) (hx : x < 256) : bits .andNot .u8 (x : Int) (leads[k]?.getD 0) = ((x % mdR k : Nat) : Int) := by
 have h : ∀ y : Fin 256, bits .andNot .u8 (y.val : Int) 0 = ((y.val % 256 : Nat) : Int) /\ bits .andNot .u8 (y.val : Int) 192 = ((y.val % 64 : Nat) : Int) /\ bits .andNot .u8 (y.val : Int) 224 = ((y.val % 32 : Nat) : Int) /\ bits .andNot .u8 (y.val : Int) 240 = ((y.val % 16 : Nat) : Int) := by decide +kernel
 obtain ⟨a, b, c, d⟩ := h ⟨x, hx⟩
 rcases (show k = 1 \/ k = 2 \/ k = 3 \/ k = 4 by omega) with rfl | rfl | rfl | rfl
 ·exact a
 ·exact b
 ·exact c
 ·exact d
theorem u8_and63 (x : Nat) (hx : x < 256) : bits .and .u8 (x : Int) 63 = ((x % 64 : Nat) : Int) := by
 have h : ∀ y : Fin 256, bits .and .u8 (y.val : Int) 63 = ((y.val % 64 : Nat) : Int) := by decide +kernel
 exact h ⟨x, hx⟩
theorem i32_or64 (q x : Nat) (hq : q < 33554432) (h : x < 64) : bits .or .i32 ((q * 64 : Nat) : Int) (x : Int) = ((q * 64 + x : Nat) : Int) := by
 show IntKind.i32.wrap ((BitVec.ofInt 32 ((q * 64 : Nat) : Int) ||| BitVec.ofInt 32 (x : Int)).toNat : Int) = _
 rw [BitVec.toNat_or, ofInt_i32 x (by omega), ofInt_i32 _ (by omega), IntKind.wrap_i32, Nat.mul_comm q 64, or_pow 6 q x (by omega)]
 omega
theorem utf_first (s : List UInt8) (w : World) (hs : s.length <= 140737488355328) :
  Calls Tryz.prog 239 #[.string ⟨s.toArray⟩] w fun e w' => e = .returned (.tuple #[.int .i32 (firstF s).1, .int .i64 (firstF s).2]) /\ Below w.heap.size w w' := by
 go_enter Tryz.func239, Tryz.ntmps239
 go_wp2_with fail
 refine (utf_classes _).mono ?_
 rintro e w1 ⟨rfl, rfl⟩
 have hb1 : Below w.heap.size w (w.alloc (.cells CL 325)) := (Below.refl _ _).alloc (Nat.le_refl _) _
 generalize hw1 : (w.alloc (.cells #[.int .i32 0, .int .u8 0, .int .i32 128, .int .u8 0, .int .i32 2048, .int .u8 192, .int .i32 65536, .int .u8 224, .int .i32 1114112, .int .u8 240] 325)) = w1 at *
 have hb1 : Below w.heap.size w w1 := hw1 ▸ hb1
 have hsz : ByteArray.size ⟨s.toArray⟩ = s.length := by simp [ByteArray.size]
 rw [show (#[.int .i32 0, .int .u8 0, .int .i32 128, .int .u8 0, .int .i32 2048, .int .u8 192, .int .i32 65536, .int .u8 224, .int .i32 1114112, .int .u8 240] : Array Value) = CL from rfl]
 go_wp2
 go_loopw [4, 5, 6, 8, 10] (fun _ _ _ _ i wr => ∃ (k : Nat), k <= 5 /\ i = .int .i64 k /\ Hid (∀ j, j < k -> j ≠ 0 -> okR j s = false) /\ Below w.heap.size w wr) (fun _ _ _ _ i _ => 5 - (intOf i).toNat)
 case atStart => exact ⟨0, by omega, rfl, fun j hj => absurd hj (Nat.not_lt_zero _), hb1⟩
 case round =>
  obtain ⟨k, hk, rfl, hj, hbel⟩ := hrel
  rcases Nat.lt_or_ge k 5 with hk5 | hk5
  ·have hix := cls_at k hk5
   rcases Nat.eq_zero_or_pos k with rfl | hk0
   ·have hix2 : ∀ w, (Instr.index 325 (.agg CL) (.int .i64 0)).run Tryz.prog w = .ok (.agg #[.int .i32 0, .int .u8 0]) w := cls_0
    rw [show ((0 : Nat) : Int) = 0 from rfl]
    go_wp2
    go_roundw
    case rel => exact ⟨1, by omega, rfl, fun j hj h0 => absurd hj (by omega), hbel.alloc hbel.size _⟩
    case measure => simp [intOf]
   rcases Nat.lt_or_ge s.length k with hlen | hlen
   ·go_wp2
    go_roundw
    case rel =>
     refine ⟨k + 1, by omega, rfl, fun j hj' h0 => ?_, hbel.alloc hbel.size _⟩
     rcases Nat.lt_or_ge j k with h | h
     ·exact hj.out j h h0
     ·have : j = k := by omega
      subst this;simp [okR]; omega
    case measure => simp [intOf]; omega
   ·generalize hLd : leads[k]?.getD 0 = ld at *
    generalize hBl : belows[k]?.getD 0 = bl at *
    have hc1 : (wr.alloc (.cells #[.int .i32 bl, .int .u8 ld] 324)).cell? ⟨wr.heap.size, 1, none⟩ = some (.int .u8 ld) := by
     rw [World.cell?_alloc_at _ _ _ _ rfl]; simp
    have hn1 : ¬ (k : Int) = 0 := by omega
    have hn2 : ¬ (s.length : Int) < k := by omega
    have hx0 := fun W => str_idx s 0 (by omega) W
    have hx0' : ∀ W, (Instr.index 9 (.string ⟨s.toArray⟩) (.int .i64 0)).run Tryz.prog W = .ok (.int .u8 (at8 s 0)) W := hx0
    have han := u8_andNot k (by omega) (by omega) (at8 s 0) (at8_lt s 0)
    rw [hLd] at han
    obtain ⟨a0, ha0⟩ : ∃ a0, at8 s 0 % mdR k = a0 := ⟨_, rfl⟩
    rw [ha0] at han
    have hw32 : wrap32 (a0 : Int) = a0 := by
     have h0 := at8_lt s 0
     have h1 : at8 s 0 % mdR k <= at8 s 0 := Nat.mod_le _ _
     unfold wrap32; omega
    obtain ⟨bd, hbd⟩ : ∃ bd, (s.take k).tail = bd := ⟨_, rfl⟩
    have hbl : bd.length = k - 1 := by rw [<- hbd]; simp; omega
    have hcv := fun W => run_bytes_of_string (P := Tryz.prog) W 9 71 5 ⟨bd.toArray⟩ Tryz.underlying9 Tryz.underlying71 Tryz.underlying5
    have hct : ∀ W, (Instr.slice 9 (.string ⟨s.toArray⟩) (some (.int .i64 1)) (some (.int .i64 k)) none).run Tryz.prog W = .ok (.string ⟨bd.toArray⟩) W := fun W => by rw [<- hbd, <- List.drop_one]; exact str_cut s 1 k (by omega) hlen W
    have hat : Hid (∀ j, j < k - 1 -> at8 bd j = at8 s (j + 1)) := fun j hj => by rw [<- hbd]; exact at8_body s k j hj
    have hac : Hid (a0 = accV k s 0) := ha0.symm
    clear hbd ha0;go_wp2
    go_region
    rw [hw32]
    go_wp2
    rw [hac]
    go_loopw [6, 8, 33] (fun r _ i wi => ∃ (j : Nat), j <= k - 1 /\ r = .int .i32 (accV k s j) /\ i = .int .i64 j /\ Hid (Below w.heap.size w wi /\ ∀ j, j < k - 1 -> wi.cell? ⟨wr.heap.size + 1, j, none⟩ = some (.int .u8 (at8 s (j + 1))))) (fun _ _ i _ => k - (intOf i).toNat)
    case atStart =>
     refine ⟨0, by omega, rfl, rfl, (((hbel.alloc hbel.size _).alloc (by have := hbel.size; simp; omega) _).drew).drew, fun j hj => ?_⟩
     rw [<- hat.out j hj]
     have h1 := fun f1 f2 => bytesRow_cell (wr.alloc (.cells #[.int .i32 bl, .int .u8 ld] 324)) bd (grownCap (wr.alloc (Obj.cells #[Value.int IntKind.i32 bl, Value.int IntKind.u8 ld] 324)).drew (k - 1) 0 5) 5 (f1, f2) j (by omega)
     simp only [World.size_alloc] at h1
     exact h1 _ _
    case round =>
     obtain ⟨j, hjk, rfl, rfl, hin⟩ := hrel
     clear hcv hix hx0 hx0' hc1 han hw1;rcases Nat.lt_or_ge j (k - 1) with hjl | hjl
     ·have hc := hin.out.2 j hjl
      have hv := accV_lt k s j (by omega)
      have hv2 := accV_lt k s (j + 1) (by omega)
      have g1 := u8_and63 (at8 s (j + 1)) (at8_lt s (j + 1))
      have g2 := i32_or64 (accV k s j) (at8 s (j + 1) % 64) (by simp only [accV] at hv2; omega) (by omega)
      go_wp2
      go_roundw
      case rel =>
       have e1 : wrap32 ((accV k s j : Int) * 64) = ((accV k s j * 64 : Nat) : Int) := by
        simp only [accV] at hv2
        unfold wrap32; omega
       refine ⟨j + 1, by omega, ?_, rfl, hin⟩
       rw [e1, show ((at8 s (j + 1) : Int) % 64) = ((at8 s (j + 1) % 64 : Nat) : Int) from rfl, g2]
       rfl
      case measure => simp [intOf]; omega
     ·obtain rfl : j = k - 1 := by omega
      rw [accV_val k s (by omega) (by omega)]
      have hbel2 := hin.out.1
      clear hin;have hvl := valR_lt k s
      have hok := okR_iff k s
      generalize hvv : valR k s = v at *
      have HV := hid hvv;clear hvv;have hct2 := fun W => str_to s k hlen W
      rcases Nat.eq_zero_or_pos v with rfl | hv0
      ·go_wp2
       go_region
       go_wp2
       go_roundw
       case rel =>
        refine ⟨k + 1, by omega, rfl, fun i hi h0 => ?_, hbel2.drew⟩
        rcases Nat.lt_or_ge i k with h | h
        ·exact hj.out i h h0
        ·have : i = k := by omega
         subst this;exact Bool.eq_false_iff.2 (fun h => (hok.1 h).2.1 rfl)
       case measure => simp [intOf]; omega
      ·have hv1 : ¬ v = 0 := by omega
       go_wp2
       have hne : ((v : Int) != 0) = true := by simp; omega
       refine regionQ [] (by kernel_rfl) trivial fun KQ hKQ => ?_
       refine tQ [0, 1, 2, 3] ?_;refine sN 4 fun K hK => ?_;simp only [GO];go_simp;cases hmy : mayR v
       ·refine (utf_may_is v _ hmy _).mono ?_
        rintro e w5 ⟨rfl, rfl⟩
        refine hK _ _ ?_;clear hK K;try simp only [PT]
        refine tQ [5, 6] ?_;refine uQ 7 ?_;refine uQ 8 ?_;refine uQ 9 ?_;refine uQ 10 ?_;refine uQ 11 ?_;refine uQ 12 ?_;refine uQ 13 ?_;refine tQ [14] ?_;refine dQ (hKQ.out _ _ ?_);clear hKQ KQ;go_wp2
        go_roundw
        case rel =>
         refine ⟨k + 1, by omega, rfl, fun i hi h0 => ?_, hbel2.drew⟩
         rcases Nat.lt_or_ge i k with h | h
         ·exact hj.out i h h0
         ·have : i = k := by omega
          subst this;exact Bool.eq_false_iff.2 (fun h => by have := (hok.1 h).2.2.1; rw [hmy] at this; cases this)
        case measure => simp [intOf]; omega
       ·refine (utf_may_is v _ hmy _).mono ?_
        rintro e w5 ⟨rfl, rfl⟩
        refine hK _ _ ?_;clear hK K;try simp only [PT]
        refine tQ [5, 6, 7, 10, 11, 12] ?_;refine sN 8 fun K hK => ?_;simp only [GO];go_simp;refine (utf_raw v _ (by have := (mayR_iff v).1 hmy; omega)).mono ?_
        rintro e w6 ⟨rv, rfl, how6, hb6⟩
        obtain ⟨ra, rc, rfl, hrow⟩ := RowAt.of_own how6
        have hcv6 := run_str hrow
        have hbel6 := hbel2.drew.trans (hb6.mono hbel2.drew.size)
        refine hK _ _ ?_;clear hK K;try simp only [PT]
        refine sN 9 fun K hK => ?_;simp only [GO];go_simp;refine hK _ _ ?_;clear hK K;try simp only [PT]
        by_cases hE : encR v = s.take k
        ·rw [hE]
         refine tQ [13, 14] ?_;refine dQ (hKQ.out _ _ ?_);clear hKQ KQ;go_wp2
         refine bodyPost_ret (v := .tuple #[.int .i32 v, .int .i64 k]) (by simp [results, Tryz.results239, go_sem]) rfl ⟨?_, hbel6⟩
         have hokk : okR k s = true := hok.2 ⟨hlen, by omega, hmy, hE⟩
         have hno : ∀ j, j < k -> j ≠ 0 -> okR j s = false := hj.out
         have hfs : firstF s = (v, k) := by
          rw [<- HV.out]
          unfold firstF
          rcases (show k = 1 \/ k = 2 \/ k = 3 \/ k = 4 by omega) with rfl | rfl | rfl | rfl
          ·rw [if_pos hokk]
          ·rw [if_neg (by rw [hno 1 (by omega) (by omega)]; exact Bool.false_ne_true), if_pos hokk]
          ·rw [if_neg (by rw [hno 1 (by omega) (by omega)]; exact Bool.false_ne_true), if_neg (by rw [hno 2 (by omega) (by omega)]; exact Bool.false_ne_true), if_pos hokk]
          ·rw [if_neg (by rw [hno 1 (by omega) (by omega)]; exact Bool.false_ne_true), if_neg (by rw [hno 2 (by omega) (by omega)]; exact Bool.false_ne_true), if_neg (by rw [hno 3 (by omega) (by omega)]; exact Bool.false_ne_true), if_pos hokk]
         rw [hfs]
        ·have hE2 : ((⟨(encR v).toArray⟩ : ByteArray).toList == (⟨(s.take k).toArray⟩ : ByteArray).toList) = false := by
          rw [ByteArray.toList_eq, ByteArray.toList_eq]
          simpa using hE
         have hE3 : (encR v == s.take k) = false := by simpa using hE
         refine tQ [13, 14] ?_;refine dQ (hKQ.out _ _ ?_);clear hKQ KQ;go_wp2
         go_roundw
         case rel =>
          refine ⟨k + 1, by omega, rfl, fun i hi h0 => ?_, hbel6⟩
          rcases Nat.lt_or_ge i k with h | h
          ·exact hj.out i h h0
          ·have : i = k := by omega
           subst this;exact Bool.eq_false_iff.2 (fun h => hE (hok.1 h).2.2.2)
         case measure => simp [intOf]; omega
  ·obtain rfl : k = 5 := by omega
   go_wp2
   refine bodyPost_ret (v := .tuple #[.int .i32 0, .int .i64 0]) (by simp [results, Tryz.results239, go_sem]) rfl ⟨?_, hbel⟩
   have g1 := hj.out 1 (by omega) (by omega)
   have g2 := hj.out 2 (by omega) (by omega)
   have g3 := hj.out 3 (by omega) (by omega)
   have g4 := hj.out 4 (by omega) (by omega)
   simp [firstF, g1, g2, g3, g4]
end
end Go.Proofs.YtoinabapaeebfaaGreatDoor
