/- Parts of the proof of ScriptCuts: contracts of functions that it reaches, and plain lemmas. No condition of their own. -/
import Derived.Test.YtkghejaimhoboaaGreatDoorPk03
import Derived.BigQuiet
import Derived.Test.YtkghejaimhoboaaGreatDoorPk04
import Derived.Laws.IdiomStrings
set_option linter.unusedSimpArgs false
set_option linter.unusedVariables false
set_option maxRecDepth 100000
set_option maxHeartbeats 8000000
namespace Go.Proofs.YtkghejaimhoboaaGreatDoor
open Go.RowKit Go.Shelf
section
abbrev Fact := Nat × (World -> Prop)
section
variable {P : Program} {ops : Array Oper}
def FR (facts : List Fact) (listed : Array Bool) (w : World) : Prop := ∀ f ∈ facts, listed.getD f.1 false = false -> f.2 w
theorem FR.get {md : Region.Mode} {facts : List Fact} {listed : Array Bool} {w : World} {i : Nat} (hc : ClosedL md ops listed) (hn : listed.getD i true = false) (h : FR facts listed w) (k : Nat) (p : World -> Prop)
  (hm : (k, p) ∈ facts) (hw : waits md ops k i = true) : p w := by
 refine h _ hm ?_
 dsimp only
 unfold waits at hw
 cases hk : ops[k]? with
 | none =>
  have h1 := Array.getElem?_eq_none_iff.1 hk
  have h2 : listed[k]? = none := Array.getElem?_eq_none_iff.2 (by rw [hc.1]; exact h1)
  rw [Array.getD_eq_getD_getElem?, h2]
  rfl
 | some o =>
  rw [hk] at hw
  obtain ⟨e, he, hb⟩ := Array.any_eq_true'.1 hw
  simp only [Bool.and_eq_true, beq_iff_eq] at hb
  cases hl : listed.getD k false with
  | false => rfl
  | true =>
   have h1 := hc.2 k o hk hl e he hb.1
   rw [hb.2] at h1
   rcases Nat.lt_or_ge i listed.size with h' | h'
   ·simp [h'] at hn h1; rw [hn] at h1; cases h1
   ·simp [Array.getElem?_eq_none h'] at h1
def wpAnyR (P : Program) (md : Region.Mode) (ops : Array Oper) (Q : Exit -> Act -> World -> Prop) (facts : List Fact) : Nat -> Array Bool -> Act -> World -> Prop
 | 0, listed, a, w => Region.ready md ops listed = [] /\ Q .normal a w
 | fuel + 1, listed, a, w =>
  (Region.ready md ops listed = [] -> Q .normal a w) /\
  ∀ i ∈ Region.ready md ops listed, wpOp P ops Q i (fun a' w' => FR facts (listed.setIfInBounds i true) w' /\ wpAnyR P md ops Q facts fuel (listed.setIfInBounds i true) a' w') a w
variable {Q : Exit -> Act -> World -> Prop} {md : Region.Mode}
theorem wpAny_of_R {facts : List Fact} : ∀ (fuel : Nat) (listed : Array Bool) (a : Act) (w : World), wpAnyR P md ops Q facts fuel listed a w -> wpAny P md ops Q fuel listed a w
 | 0, _, _, _, h => h
 | fuel + 1, _, _, _, h => ⟨h.1, fun i hi => wpOp_mono (fun a' w' h' => wpAny_of_R fuel _ a' w' h'.2) (h.2 i hi)⟩
def upR (md : Region.Mode) (ops : Array Oper) (facts : List Fact) (i : Nat) (w : World) : Prop := ∃ listed, ClosedL md ops listed /\ listed.getD i true = false /\ FR facts listed w
theorem upR.get {facts : List Fact} {i : Nat} {w : World} (h : upR md ops facts i w) (k : Nat) (p : World -> Prop) (hm : (k, p) ∈ facts) (hw : waits md ops k i = true) : p w := by
 obtain ⟨listed, h1, h2, h3⟩ := h
 exact h3.get h1 h2 k p hm hw
theorem FR.set {facts : List Fact} {listed : Array Bool} {w : World} {i : Nat} (hk : ∀ f ∈ facts, f.1 ≠ i) : FR facts (listed.setIfInBounds i true) w ↔ FR facts listed w := by
 constructor
 ·intro h f hf hl; exact h f hf (by rw [getD_set_ne false (Ne.symm (hk f hf))]; exact hl)
 ·intro h f hf hl; exact h f hf (by rw [getD_set_ne false (Ne.symm (hk f hf))] at hl; exact hl)
theorem wpAnyR_first {facts : List Fact} {i : Nat} {oi : Oper} {v : Value} (hi : ops[i]? = some oi) (hsel : ∀ (j : Nat) (o : Oper) cs b, ops[j]? = some o -> o.op ≠ .select cs b)
  (hQ : ∀ c a w, Q (.panic c) (a.put oi.dst v) w -> Q (.panic c) a w) (hk : ∀ f ∈ facts, f.1 ≠ i) :
  ∀ (fuel : Nat) (listed : Array Bool) (a : Act) (w : World),
   (∀ j oj, ops[j]? = some oj -> j ≠ i -> listed.getD j true = false -> (∀ e ∈ oj.after, Region.binds md e = true -> e.on ≠ i) -> oi.apart ops oj = true) ->
   i ∈ Region.ready md ops listed -> YieldsIf P ops (upR md ops facts i) oi v a -> ClosedL md ops listed -> FR facts listed w ->
   wpAnyR P md ops Q facts fuel (listed.setIfInBounds i true) (a.put oi.dst v) w -> wpAnyR P md ops Q facts (fuel + 1) listed a w := by
 intro fuel
 induction fuel with
 | zero =>
  intro listed a w _ hr hy hcl hS H
  have hn := (mem_ready.1 hr).1
  refine ⟨fun h => (by rw [h] at hr; cases hr), fun j hj => ?_⟩
  by_cases hji : j = i
  ·subst hji; exact hy.wpOp hi ⟨listed, hcl, hn, hS⟩ ⟨(FR.set hk).2 hS, H⟩
  ·have := ready_mono hj hji
   rw [H.1] at this
   cases this
 | succ fuel ih =>
  intro listed a w hfree hr hy hcl hS H
  have hn := (mem_ready.1 hr).1
  refine ⟨fun h => (by rw [h] at hr; cases hr), fun j hj => ?_⟩
  by_cases hji : j = i
  ·subst hji; exact hy.wpOp hi ⟨listed, hcl, hn, hS⟩ ⟨(FR.set hk).2 hS, H⟩
  ·have h1 := H.2 j (ready_mono hj hji)
   obtain ⟨hjun, oj, hoj, hall⟩ := mem_ready.1 hj
   have hnot : ∀ e ∈ oj.after, Region.binds md e = true -> e.on ≠ i := fun e he hb heq => by
    have h1 := hall e he hb
    have h0 := hn
    rw [heq] at h1
    rcases Nat.lt_or_ge i listed.size with h' | h'
    ·simp [h'] at h0 h1; rw [h0] at h1; cases h1
    ·simp [Array.getElem?_eq_none h'] at h1
   have h2 := wpOp_putIf hoj (hfree j oj hoj hji hjun hnot) (fun cs b => hsel i oi cs b hi) (fun cs b => hsel j oj cs b hoj) hQ hy h1
   have hfree' : ∀ k ok, ops[k]? = some ok -> k ≠ i -> (listed.setIfInBounds j true).getD k true = false ->
     (∀ e ∈ ok.after, Region.binds md e = true -> e.on ≠ i) -> oi.apart ops ok = true := fun k ok hk hki hun hno => by
    refine hfree k ok hk hki ?_ hno
    by_cases hjk : j = k
    ·subst hjk; exact hjun
    ·rw [getD_set_ne true hjk] at hun; exact hun
   refine wpOp_mono (fun a' w' h3 => ?_) h2
   have h4 := h3.2.1
   rw [Array.setIfInBounds_comm _ _ (Ne.symm hji), FR.set hk] at h4
   refine ⟨h4, ih (listed.setIfInBounds j true) a' w' hfree' (ready_mono hr (Ne.symm hji)) h3.1 (hcl.step hj) h4 ?_⟩
   rw [Array.setIfInBounds_comm _ _ hji]
   exact h3.2.2
/-! ### The state of a walk: what has come up -/
def listedOf (ops : Array Oper) (taken : List Nat) : Array Bool := taken.foldr (fun i l => l.setIfInBounds i true) (Array.replicate ops.size false)
theorem listedOf_get (taken : List Nat) (k : Nat) (hk : ∀ i ∈ taken, i < ops.size) : (listedOf ops taken).getD k false = taken.contains k := by
 induction taken with
 | nil =>
  simp only [listedOf, List.foldr_nil, Array.getD_eq_getD_getElem?, List.contains_nil]
  rcases Nat.lt_or_ge k ops.size with h | h
  ·simp [h]
  ·rw [Array.getElem?_eq_none (by simpa using h)]; rfl
 | cons i t ih =>
  have h1 := ih (fun j hj => hk j (List.mem_cons_of_mem _ hj))
  have h2 : (listedOf ops t).size = ops.size := by
   clear ih h1 hk;induction t with
   | nil => simp [listedOf]
   | cons j t ih => simp only [listedOf, List.foldr_cons, Array.size_setIfInBounds] at ih ⊢; exact ih
  show ((listedOf ops t).setIfInBounds i true).getD k false = _
  by_cases hik : i = k
  ·subst hik
   have h3 := hk i (List.mem_cons_self ..)
   simp [Array.getD_eq_getD_getElem?, h2, h3]
  ·rw [getD_set_ne false hik, h1]
   simp [Ne.symm hik]
def HoldR (taken : List Nat) : List Fact -> World -> Prop
 | [], _ => True
 | f :: fs, w => (taken.contains f.1 = false -> f.2 w) /\ HoldR taken fs w
theorem HoldR.mem {taken : List Nat} {facts : List Fact} {w : World} (h : HoldR taken facts w) : ∀ f ∈ facts, taken.contains f.1 = false -> f.2 w := by
 induction facts with
 | nil => intro f hf; cases hf
 | cons g fs ih =>
  intro f hf hc
  rcases List.mem_cons.1 hf with rfl | hf
  ·exact h.1 hc
  ·exact ih h.2 f hf hc
def PutFree (Q : Exit -> Act -> World -> Prop) : Prop := ∀ c (a : Act) (d : Option Tmp) (v : Value) w, Q (.panic c) (a.put d v) w -> Q (.panic c) a w
def PutOn (ops : Array Oper) (Q : Exit -> Act -> World -> Prop) : Prop := ∀ (i : Nat) (oi : Oper), ops[i]? = some oi -> ∀ (c : List PanicEntry) (a : Act) (v : Value) w, Q (.panic c) (a.put oi.dst v) w -> Q (.panic c) a w
theorem PutFree.on {Q : Exit -> Act -> World -> Prop} (h : PutFree Q) (ops : Array Oper) : PutOn ops Q := fun _ _ _ c a v w => h c a _ v w
theorem onlyN_free (K : Act -> World -> Prop) (ops : Array Oper) : PutOn ops (onlyN K) := fun _ _ _ _ _ _ _ h => h
def atR (P : Program) (ops : Array Oper) (KQ : Exit -> Act -> World -> Prop) (facts : List Fact) (taken : List Nat) (a : Act) (w : World) : Prop :=
 (∀ i ∈ taken, i < ops.size) -> ClosedL .any ops (listedOf ops taken) -> FR facts (listedOf ops taken) w -> PutOn ops KQ -> wpAnyR P .any ops KQ facts (ops.size - taken.length) (listedOf ops taken) a w
def takeB (ops : Array Oper) (fk : List Nat) (taken : List Nat) (i : Nat) : Bool :=
 Region.noSelect ops && Region.free .any ops (listedOf ops taken) i && (Region.ready .any ops (listedOf ops taken)).contains i && decide (taken.length < ops.size) && !fk.contains i
def plainOp : Op -> Bool
 | .move _ | .assign _ | .pick .. | .load .. | .binOp .. | .unOp .. | .convert .. | .slice .. | .fieldAddr .. | .field .. | .indexAddr .. | .index .. | .lookup .. | .extract .. | .typeAssert .. | .build .. | .makeInterface .. => true
 | .call { callee := .builtin .len, .. } | .call { callee := .builtin .cap, .. } | .call { callee := .builtin .min, .. } | .call { callee := .builtin .max, .. } => true
 | _ => false
theorem run_v {s : Sem Value} {w w' : World} {n : Next} (h : (do pure (Next.value (<- s)) : Sem Next).run P w = .ok n w') : ∃ v, n = .value v := by
 rw [Sem.run_bind] at h
 cases hs : s.run P w with
 | ok x w1 => rw [hs] at h; simp at h; exact ⟨x, h.1.symm⟩
 | halt x w1 => rw [hs] at h; simp at h
theorem plain_value {o : Oper} (hp : plainOp o.op = true) (ev : Operand -> Value) (w : World) (n : Next) (w' : World) (h : (execOp ev o).run P w = .ok n w') : ∃ v, n = .value v := by
 obtain ⟨dst, op, type, pos, after, guard⟩ := o
 dsimp only at hp
 unfold execOp at h
 cases op <;> dsimp only at h hp <;> try first | exact run_v h | (exfalso; revert hp; exact Bool.false_ne_true)
 case move => simp at h; exact ⟨_, h.1.symm⟩
 case assign => simp at h; exact ⟨_, h.1.symm⟩
 case pick c x y =>
  rw [Sem.run_bind] at h
  cases hs : (asBool (ev c)).run P w with
  | ok x w1 => rw [hs] at h; simp at h; exact ⟨_, h.1.symm⟩
  | halt x w1 => rw [hs] at h; simp at h
 case call c =>
  obtain ⟨callee, args, argTypes⟩ := c
  cases callee with
  | value f => exact absurd hp (by simp [plainOp])
  | invoke r m => exact absurd hp (by simp [plainOp])
  | builtin b =>
   simp only [resolve, Sem.run_bind, Sem.run_pure, Result.andThen_ok, invoke] at h
   cases b <;> first | exact run_v h | exact absurd hp (by simp [plainOp])
variable {KQ : Exit -> Act -> World -> Prop} {facts : List Fact} {taken : List Nat} {a : Act} {w : World}
theorem readyR {oi : Oper} (i : Nat) (hi : ops[i]? = some oi) (hB : takeB ops (facts.map (·.1)) taken i = true) (v : Value) (hy : YieldsIf P ops (upR .any ops facts i) oi v a)
  (h : atR P ops KQ facts (i :: taken) (a.put oi.dst v) w) : atR P ops KQ facts taken a w := by
 intro ht hcl hfr hpf
 simp only [takeB, Bool.and_eq_true, decide_eq_true_eq, Bool.not_eq_true'] at hB
 obtain ⟨⟨⟨⟨b1, b2⟩, b3⟩, b4⟩, b5⟩ := hB
 have hr : i ∈ Region.ready .any ops (listedOf ops taken) := by simpa using b3
 have hlt : i < ops.size := (Array.getElem?_eq_some_iff.1 hi).1
 have hk : ∀ f ∈ facts, f.1 ≠ i := fun f hf he => by
  have : (facts.map (·.1)).contains i = true := List.contains_iff_mem.2 (List.mem_map.2 ⟨f, hf, he⟩)
  rw [b5] at this; cases this
 have h1 := h (fun j hj => by exact (List.mem_cons.1 hj).elim (fun e => e ▸ hlt) (ht j)) (hcl.step hr) ((FR.set hk).2 hfr) hpf
 rw [show ops.size - taken.length = (ops.size - (i :: taken).length) + 1 from by simp only [List.length_cons]; omega]
 exact wpAnyR_first hi (Region.noSelect_spec b1) (fun c a w => hpf i _ hi c a _ w) hk _ _ a w (Region.free_spec hi b2) hr hy hcl hfr h1
theorem takeQ (i : Nat) {oi : Oper} (hi : ops[i]? = some oi) (hB : takeB ops (facts.map (·.1)) taken i = true) (hp : plainOp oi.op = true) (hw : Region.wanted oi (yielded ops a.tmps) = true)
  (h : ∀ K : Act -> Prop, (∀ a', atR P ops KQ facts (i :: taken) a' w -> K a') -> oi.quiet P a (fun _ => True) K) : atR P ops KQ facts taken a w := by
 obtain ⟨v, hv, hn⟩ := h (fun a' => atR P ops KQ facts (i :: taken) a' w) (fun _ h => h)
 refine readyR i hi hB v (.inl ⟨hw, fun w' hu => ?_⟩) hn
 have h1 := hv w' trivial
 unfold Oper.quietAt at h1
 have h2 := plain_value (P := P) hp a.eval w'
 generalize (execOp a.eval oi).run P w' = r at *
 cases r with
 | ok n w2 =>
  obtain ⟨u, rfl⟩ := h2 n w2 rfl
  simp only [Oper.quietUpon] at h1
  rw [h1.1, h1.2]
 | halt x w2 => exact h1.elim
theorem readQ (i : Nat) {oi : Oper} (hi : ops[i]? = some oi) (hB : takeB ops (facts.map (·.1)) taken i = true) (v : Value) (hw : Region.wanted oi (yielded ops a.tmps) = true)
  (hr : ∀ w', upR .any ops facts i w' -> (execOp a.eval oi).run P w' = .ok (.value v) w') (h : atR P ops KQ facts (i :: taken) (a.put oi.dst v) w) : atR P ops KQ facts taken a w :=
 readyR i hi hB v (.inl ⟨hw, hr⟩) h
theorem loadQ (i : Nat) {oi : Oper} (hi : ops[i]? = some oi) (hB : takeB ops (facts.map (·.1)) taken i = true) (hw : Region.wanted oi (yielded ops a.tmps) = true) {t : TypeId} {x : Operand} (hop : oi.op = .load t x) {u : Value} (hx : a.eval x = u)
  (n : Nat) {k : Nat} {p : World -> Prop} (hf : facts[n]? = some (k, p)) (hk : waits .any ops k i = true) (v : Value) (hr : ∀ w', p w' -> (Instr.loadAt t u).run P w' = .ok v w')
  (h : atR P ops KQ facts (i :: taken) (a.put oi.dst v) w) : atR P ops KQ facts taken a w := by
 refine readyR i hi hB v (.inl ⟨hw, fun w' hu => ?_⟩) h
 have h1 := hr w' (hu.get k p (List.mem_of_getElem? hf) hk)
 simp only [execOp, hop, hx, Sem.run_bind, h1, Result.andThen_ok, Sem.run_pure]
theorem convQ (i : Nat) {oi : Oper} (hi : ops[i]? = some oi) (hB : takeB ops (facts.map (·.1)) taken i = true) (hw : Region.wanted oi (yielded ops a.tmps) = true) {s t : TypeId} {x : Operand} (hop : oi.op = .convert s t x) {u : Value} (hx : a.eval x = u)
  (n : Nat) {k : Nat} {p : World -> Prop} (hf : facts[n]? = some (k, p)) (hk : waits .any ops k i = true) (v : Value) (hr : ∀ w', p w' -> (convert s t u).run P w' = .ok v w')
  (h : atR P ops KQ facts (i :: taken) (a.put oi.dst v) w) : atR P ops KQ facts taken a w := by
 refine readyR i hi hB v (.inl ⟨hw, fun w' hu => ?_⟩) h
 have h1 := hr w' (hu.get k p (List.mem_of_getElem? hf) hk)
 simp only [execOp, hop, hx, Sem.run_bind, h1, Result.andThen_ok, Sem.run_pure]
theorem skipQ (i : Nat) {oi : Oper} (hi : ops[i]? = some oi) (hB : takeB ops (facts.map (·.1)) taken i = true) (hw : Region.wanted oi (yielded ops a.tmps) = false)
  (h : atR P ops KQ facts (i :: taken) (a.put oi.dst undef) w) : atR P ops KQ facts taken a w :=
 readyR i hi hB undef (.inr ⟨hw, rfl⟩) h
structure Both (A B : Prop) : Prop where
 one : A
 two : B
theorem stepQ (j : Nat) {oj : Oper} (hj : ops[j]? = some oj) (hr : Region.ready .any ops (listedOf ops taken) = [j]) (hlt : taken.length < ops.size) (hw : Region.wanted oj (yielded ops a.tmps) = true)
  (h : ∀ K : Act -> World -> Prop, (∀ a' w', Both (HoldR (j :: taken) facts w') (atR P ops KQ facts (j :: taken) a' w') -> K a' w') -> oj.wp P a w K KQ) : atR P ops KQ facts taken a w := by
 intro ht hcl hfr hpf
 rw [show ops.size - taken.length = (ops.size - (j :: taken).length) + 1 from by simp only [List.length_cons]; omega]
 have hlj : j < ops.size := (Array.getElem?_eq_some_iff.1 hj).1
 have hrj : j ∈ Region.ready .any ops (listedOf ops taken) := by rw [hr]; exact List.mem_singleton.2 rfl
 have ht' : ∀ i ∈ j :: taken, i < ops.size := fun i hi => by exact (List.mem_cons.1 hi).elim (fun e => e ▸ hlj) (ht i)
 refine ⟨fun h0 => absurd (hr.symm.trans h0) (by simp), fun i hi => ?_⟩
 rw [hr] at hi
 obtain rfl := List.mem_singleton.1 hi
 unfold wpOp
 rw [hj]
 dsimp only
 rw [if_pos hw]
 refine .inl (h _ fun a' w' hb => ?_)
 have hf : FR facts (listedOf ops (i :: taken)) w' := fun f hf hl => hb.one.mem f hf (by rw [listedOf_get _ _ ht'] at hl; exact hl)
 exact ⟨hf, hb.two ht' (hcl.step hrj) hf hpf⟩
theorem stepN (j : Nat) {oj : Oper} (hj : ops[j]? = some oj) (hr : Region.ready .any ops (listedOf ops taken) = [j]) (hlt : taken.length < ops.size) (hw : Region.wanted oj (yielded ops a.tmps) = true)
  (h : ∀ K : Act -> World -> Prop, (∀ a' w', atR P ops KQ [] (j :: taken) a' w' -> K a' w') -> oj.wp P a w K KQ) : atR P ops KQ [] taken a w :=
 stepQ j hj hr hlt hw fun K hK => h K fun a' w' h' => hK a' w' ⟨trivial, h'⟩
theorem FR.nil {listed : Array Bool} : FR [] listed w := fun f hf => by cases hf
theorem doneQ (hr : Region.ready .any ops (listedOf ops taken) = []) (h : KQ .normal a w) : atR P ops KQ facts taken a w := by
 intro _ _ _ _
 cases hn : ops.size - taken.length with
 | zero => exact ⟨hr, h⟩
 | succ n => exact ⟨fun _ => h, by rw [hr]; intro i hi; cases hi⟩
def AllF : List Fact -> World -> Prop
 | [], _ => True
 | f :: fs, w => f.2 w /\ AllF fs w
theorem AllF.mem {facts : List Fact} {w : World} (h : AllF facts w) : ∀ f ∈ facts, f.2 w := by
 induction facts with
 | nil => intro f hf; cases hf
 | cons g fs ih =>
  intro f hf
  rcases List.mem_cons.1 hf with rfl | hf
  ·exact h.1
  ·exact ih h.2 f hf
theorem regionQ {id : Nat} {a : Act} {w : World} {Q : Exit -> Act -> World -> Prop} (facts : List Fact) (hm : P.follows .mixedOrders = true) (h0 : AllF facts w.drew)
  (h : ∀ KQ, Shut (∀ a w, Q .normal a w -> KQ a w) -> atR P ops (onlyN KQ) facts [] a w.drew) : (Code.region id ops true).wp P Q a w := by
 refine wp_K fun KQ hKQ => ?_
 refine wp_region_any hm (wpAny_of_R _ _ _ _ (h KQ hKQ (fun _ hi => by cases hi) ClosedL.start (fun f hf _ => h0.mem f hf) (onlyN_free _ _)))
theorem regionP {id : Nat} {a : Act} {w : World} {Q : Exit -> Act -> World -> Prop} (facts : List Fact) (hpf : PutFree Q) (hm : P.follows .mixedOrders = true) (h0 : AllF facts w.drew)
  (h : ∀ KQ, Shut (∀ e a w, Q e a w -> KQ e a w) -> atR P ops KQ facts [] a w.drew) : (Code.region id ops true).wp P Q a w :=
 wp_region_any hm (wpAny_of_R _ _ _ _ (h Q (fun _ _ _ h => h) (fun _ hi => by cases hi) ClosedL.start (fun f hf _ => h0.mem f hf) (hpf.on _)))
theorem regionPO {id : Nat} {a : Act} {w : World} {Q : Exit -> Act -> World -> Prop} (facts : List Fact) (hpf : PutOn ops Q) (hm : P.follows .mixedOrders = true) (h0 : AllF facts w.drew)
  (h : ∀ KQ, Shut (∀ e a w, Q e a w -> KQ e a w) -> atR P ops KQ facts [] a w.drew) : (Code.region id ops true).wp P Q a w :=
 wp_region_any hm (wpAny_of_R _ _ _ _ (h Q (fun _ _ _ h => h) (fun _ hi => by cases hi) ClosedL.start (fun f hf _ => h0.mem f hf) hpf))
end
theorem belw {X : Prop} (h : X := by (repeat (first | exact Below.refl _ _ | (refine Below.setCell ?_ (by simp <;> omega) _) | (refine Below.alloc ?_ (by simp <;> omega) _) | refine Below.drew ?_))) : X := h
theorem GO : (∀ {α : Type} (l : List α) (i : Nat) (h : i < l.toArray.size), l.toArray[i]'h = l[i]'(by simpa using h)) /\ (∀ {α : Type} (a : α) (l : List α) (h : 0 < (a :: l).length), (a :: l)[0]'h = a) /\
  (∀ {α : Type} (a : α) (l : List α) (i : Nat) (h : i + 1 < (a :: l).length), (a :: l)[i + 1]'h = l[i]'(by simpa using h)) :=
 ⟨fun l i h => List.getElem_toArray h, fun _ _ _ => rfl, fun _ _ _ _ => rfl⟩
theorem PT : (∀ (a : Act) (d : Tmp) (v : Value), a.put (some d) v = { a with tmps := a.tmps.setIfInBounds d v }) /\ (∀ (a : Act) (v : Value), a.put none v = a) /\
  (∀ {α : Type} (l : List α) (i : Nat) (x : α), l.toArray.setIfInBounds i x = (l.set i x).toArray) /\ (∀ {α : Type} (a x : α) (l : List α), (a :: l).set 0 x = x :: l) /\ (∀ {α : Type} (a x : α) (l : List α) (i : Nat), (a :: l).set (i + 1) x = a :: l.set i x) /\
  (∀ {α : Type} (l : List α) (i : Nat) (h : i < l.toArray.size), l.toArray[i]'h = l[i]'(by simpa using h)) /\ (∀ {α : Type} (a : α) (l : List α) (h : 0 < (a :: l).length), (a :: l)[0]'h = a) /\
  (∀ {α : Type} (a : α) (l : List α) (i : Nat) (h : i + 1 < (a :: l).length), (a :: l)[i + 1]'h = l[i]'(by simpa using h)) :=
 ⟨fun _ _ _ => rfl, fun _ _ => rfl, fun l i x => List.setIfInBounds_toArray .., fun _ _ _ => rfl, fun _ _ _ _ => rfl, GO.1, GO.2.1, GO.2.2⟩
structure TL (l : List Nat) (X : Prop) : Prop where
 out : X
section
variable {P : Program} {ops : Array Oper} {KQ : Exit -> Act -> World -> Prop} {facts : List Fact} {taken : List Nat} {a : Act} {w : World}
theorem TL.cons {i : Nat} {l : List Nat} {oi : Oper} (hi : ops[i]? = some oi) (hB : takeB ops (facts.map (·.1)) taken i = true) (hp : plainOp oi.op = true) (hw : Region.wanted oi (yielded ops a.tmps) = true)
  (h : ∀ K : Act -> Prop, (∀ a', TL l (atR P ops KQ facts (i :: taken) a' w) -> K a') -> oi.quiet P a (fun _ => True) K) : TL (i :: l) (atR P ops KQ facts taken a w) :=
 ⟨takeQ i hi hB hp hw fun K hK => h K fun a' h' => hK a' h'.out⟩
theorem TL.nil {X : Prop} (h : X) : TL [] X := ⟨h⟩
theorem tQ (l : List Nat) {X Q : Prop} (q : Q) (h : Q -> TL l X := by (intro hq; (repeat (refine TL.cons rfl (by kernel_rfl) rfl (by kernel_rfl) fun K hK => ?_; simp only [GO]; go_big_quiet_op; refine hK _ ?_; clear hK K)); exact TL.nil hq)) : X := (h q).out
theorem TL.skip {i : Nat} {oi : Oper} (hi : ops[i]? = some oi) (hB : takeB ops (facts.map (·.1)) taken i = true) (hw : Region.wanted oi (yielded ops a.tmps) = false)
  (h : atR P ops KQ facts (i :: taken) (a.put oi.dst undef) w) : TL [i] (atR P ops KQ facts taken a w) := ⟨skipQ i hi hB hw h⟩
theorem uQ (i : Nat) {X Q : Prop} (q : Q) (h : Q -> TL [i] X := by (intro hq; refine TL.skip rfl (by kernel_rfl) (by kernel_rfl) ?_; simp only [PT]; exact hq)) : X := (h q).out
theorem sQ (j : Nat) {oj : Oper} (h : ∀ K : Act -> World -> Prop, (∀ a' w', Both (HoldR (j :: taken) facts w') (atR P ops KQ facts (j :: taken) a' w') -> K a' w') -> oj.wp P a w K KQ)
  (hj : ops[j]? = some oj := by rfl) (hr : Region.ready .any ops (listedOf ops taken) = [j] := by kernel_rfl) (hlt : taken.length < ops.size := by decide) (hw : Region.wanted oj (yielded ops a.tmps) = true := by kernel_rfl) : atR P ops KQ facts taken a w :=
 stepQ j hj hr hlt hw h
theorem sN (j : Nat) {oj : Oper} (h : ∀ K : Act -> World -> Prop, (∀ a' w', atR P ops KQ [] (j :: taken) a' w' -> K a' w') -> oj.wp P a w K KQ)
  (hj : ops[j]? = some oj := by rfl) (hr : Region.ready .any ops (listedOf ops taken) = [j] := by kernel_rfl) (hlt : taken.length < ops.size := by decide) (hw : Region.wanted oj (yielded ops a.tmps) = true := by kernel_rfl) : atR P ops KQ [] taken a w :=
 stepN j hj hr hlt hw h
theorem dQ (h : KQ .normal a w) (hr : Region.ready .any ops (listedOf ops taken) = [] := by kernel_rfl) : atR P ops KQ facts taken a w := doneQ hr h
structure LL (i n : Nat) (X : Prop) : Prop where
 out : X
theorem LL.load {i n : Nat} {oi : Oper} (hi : ops[i]? = some oi) (hB : takeB ops (facts.map (·.1)) taken i = true) (hw : Region.wanted oi (yielded ops a.tmps) = true) {t : TypeId} {x : Operand} (hop : oi.op = .load t x) {u : Value} (hx : a.eval x = u)
  {k : Nat} {p : World -> Prop} (hf : facts[n]? = some (k, p)) (hk : waits .any ops k i = true) (v : Value) (hr : ∀ w', p w' -> (Instr.loadAt t u).run P w' = .ok v w')
  (h : atR P ops KQ facts (i :: taken) (a.put oi.dst v) w) : LL i n (atR P ops KQ facts taken a w) := ⟨loadQ i hi hB hw hop hx n hf hk v hr h⟩
theorem lQ (i n : Nat) {X Q : Prop} (q : Q) (h : Q -> LL i n X := by (intro hq; refine LL.load rfl (by kernel_rfl) (by kernel_rfl) rfl rfl rfl (by kernel_rfl) _ (fun w' hf => by (go_simp <;> with_reducible rfl)) ?_; simp only [PT]; exact hq)) : X := (h q).out
theorem lR (i n : Nat) {oi : Oper} {t : TypeId} {x : Operand} {u : Value} {k : Nat} {p : World -> Prop} {v : Value} (hi : ops[i]? = some oi) (hop : oi.op = .load t x) (hx : a.eval x = u) (hf : facts[n]? = some (k, p)) (hr : ∀ w', p w' -> (Instr.loadAt t u).run P w' = .ok v w')
  (h : atR P ops KQ facts (i :: taken) (a.put oi.dst v) w) (hB : takeB ops (facts.map (·.1)) taken i = true := by kernel_rfl) (hw : Region.wanted oi (yielded ops a.tmps) = true := by kernel_rfl) (hk : waits .any ops k i = true := by kernel_rfl) : atR P ops KQ facts taken a w :=
 loadQ i hi hB hw hop hx n hf hk v hr h
end
end
section
theorem RowAt.one (w : World) (v : Value) (T : TypeId) : RowAt (w.alloc (.cells #[v] T)) (some ⟨w.heap.size, 0, none⟩) 1 1 [v] := RowAt.new w #[v] T (0, 0) (by simp [maxLen])
theorem len_raw (n : Int) (w : World) (hm : mayL n = true) :
  Calls Tryz.prog 92 #[.int .i64 n] w fun e w' => ∃ v, e = .returned (.tuple #[v, .int .i64 0]) /\ w'.ownsRow w.heap.size 5 1 v (sizeL n) (bs (rawL (sizeL n) n.toNat)) /\ Below w.heap.size w w' := by
 have HA := hid (len_all (some ⟨w.heap.size, 0, none⟩) 1 1 [n] (w.alloc (.cells #[.int .i64 n] 2)) (RowAt.one _ _ _) (by decide) (by simpa using hm))
 go_enter Tryz.func92, Tryz.ntmps92
 go_wp2_with fail
 refine HA.out.mono ?_
 rintro e w1 ⟨v, rfl, ho, hb⟩
 have h1 : allL [n] = rawL (sizeL n) n.toNat := by simp [allL]
 rw [h1, rawL_len] at ho
 go_wp2
 go_ret2
 exact ⟨_, rfl, ownsRow_mono ho (by simp), ((Below.refl _ w).alloc (Nat.le_refl _) _).trans (hb.mono (by simp))⟩
def splitF (most : Int) : Nat -> List UInt8 -> List (List UInt8) × List UInt8
 | 0, r => ([], r)
 | f + 1, r => if errL most r = 0 /\ fullL r = true then (partL r :: (splitF most f (r.drop (cutL r))).1, (splitF most f (r.drop (cutL r))).2) else ([], r)
theorem ChainL.split {most : Int} {l : List UInt8} {ps : List (List UInt8)} {r : List UInt8} (h : ChainL most l ps r) (he : ¬ (errL most r = 0 /\ fullL r = true)) (f : Nat) (hf : ps.length < f) : splitF most f l = (ps, r) := by
 induction ps generalizing l f with
 | nil =>
  obtain rfl : l = r := h
  cases f with
  | zero => rfl
  | succ f => simp only [splitF, if_neg he]
 | cons p ps ih =>
  cases f with
  | zero => simp at hf
  | succ f =>
   have h1 := ih h.2.2.2 f (by simpa using hf)
   simp only [splitF, if_pos (⟨h.1, h.2.1⟩ : errL most l = 0 /\ fullL l = true), h1, h.2.2.1]
theorem run_str {w : World} {a : Option Addr} {n cap : Nat} {l : List UInt8} (h : RowAt w a n cap (bs l)) : (convert 22 9 (.slice a n cap)).run Tryz.prog w = .ok (.string ⟨l.toArray⟩) w := by
 have hn : l.length = n := by have := h.len; rwa [bs_len] at this
 subst hn;cases a with
 | none =>
  have h0 : l = [] := by
   cases l with
   | nil => rfl
   | cons x l => obtain ⟨_, _, ha, _⟩ := h.cells 0 (by simp); cases ha
  subst h0;exact run_convert_bytes_nil (w := w) 22 5 Tryz.underlying22 Tryz.underlying5 _ _ 9 Tryz.underlying9
 | some ad =>
  refine run_convert_bytes_back w 22 9 5 ad cap l Tryz.underlying22 Tryz.underlying5 Tryz.underlying9 (fun j hj => ?_)
  obtain ⟨b, off, ha, hc⟩ := h.byte hj
  cases ha
  rw [List.getElem?_eq_getElem hj, Option.getD_some] at hc
  by_cases h0 : j = 0
  ·subst h0; simpa [Addr.add] using hc
  ·simpa [Addr.add, h0] using hc
end
end Go.Proofs.YtkghejaimhoboaaGreatDoor
