/- A statement whose order is open, with loads of cells that its own last stores write: what is known of a cell holds till its store has come up. No program in sight. -/
import Derived.Test.YtoinabapaeebfaaGreatDoorPk04
set_option linter.unusedSimpArgs false
set_option linter.unusedVariables false
namespace Go.Proofs.YtoinabapaeebfaaGreatDoor
open Go.RowKit Go.Shelf

section
variable {P : Program} {ops : Array Oper} {Q : Exit → Act → World → Prop} {md : Region.Mode}

/-- (k, p, v): till operation k has come up the cell p holds v. -/
def CF (facts : List (Nat × Addr × Value)) (listed : Array Bool) (w : World) : Prop := ∀ f ∈ facts, listed.getD f.1 false = false → w.cell? f.2.1 = some f.2.2

/-- Whatever has come up came behind what it waits for. -/
def ClosedL (md : Region.Mode) (ops : Array Oper) (listed : Array Bool) : Prop :=
  listed.size = ops.size ∧ ∀ (j : Nat) (o : Oper), ops[j]? = some o → listed.getD j false = true → ∀ e ∈ o.after, Region.binds md e = true → listed.getD e.on false = true

theorem getD_set_self_or {listed : Array Bool} {i j : Nat} (h : (listed.setIfInBounds i true).getD j false = true) : j = i ∨ listed.getD j false = true := by
  by_cases hij : i = j
  · exact .inl hij.symm
  · rw [getD_set_ne false hij] at h; exact .inr h
theorem ClosedL.step {listed : Array Bool} {i : Nat} (h : ClosedL md ops listed) (hi : i ∈ Region.ready md ops listed) : ClosedL md ops (listed.setIfInBounds i true) := by
  refine ⟨by simpa using h.1, fun j o ho hj e he hb => ?_⟩
  rcases getD_set_self_or hj with rfl | hj
  · obtain ⟨_, o', ho', hall⟩ := mem_ready.1 hi
    rw [ho] at ho'; cases ho'
    exact getD_set_true (hall e he hb)
  · exact getD_set_true (h.2 j o ho hj e he hb)
theorem ClosedL.start : ClosedL md ops (Array.replicate ops.size false) := by
  refine ⟨by simp, fun j o ho hj => ?_⟩
  have hlt := (Array.getElem?_eq_some_iff.1 ho).1
  simp [hlt] at hj

/-- Operation k waits for i (or there is no k). -/
def waits (md : Region.Mode) (ops : Array Oper) (k i : Nat) : Bool :=
  match ops[k]? with
  | none => true
  | some o => o.after.any fun e => Region.binds md e && e.on == i

theorem CF.cell {facts : List (Nat × Addr × Value)} {listed : Array Bool} {w : World} {i : Nat} (hc : ClosedL md ops listed) (hn : listed.getD i true = false) (h : CF facts listed w) (k : Nat) (p : Addr) (v : Value)
    (hm : (k, p, v) ∈ facts) (hw : waits md ops k i = true) : w.cell? p = some v := by
  refine h _ hm ?_
  dsimp only
  unfold waits at hw
  cases hk : ops[k]? with
  | none =>
    have h1 := Array.getElem?_eq_none_iff.1 hk
    have h2 : listed[k]? = none := Array.getElem?_eq_none_iff.2 (by rw [hc.1]; exact h1)
    rw [Array.getD_eq_getD_getElem?, h2]
    rfl
  | some o =>
    rw [hk] at hw
    obtain ⟨e, he, hb⟩ := Array.any_eq_true'.1 hw
    simp only [Bool.and_eq_true, beq_iff_eq] at hb
    cases hl : listed.getD k false with
    | false => rfl
    | true =>
      have h1 := hc.2 k o hk hl e he hb.1
      rw [hb.2] at h1
      rcases Nat.lt_or_ge i listed.size with h' | h'
      · simp [h'] at hn h1; rw [hn] at h1; cases h1
      · simp [Array.getElem?_eq_none h'] at h1

def wpAnyL (P : Program) (md : Region.Mode) (ops : Array Oper) (Q : Exit → Act → World → Prop) (facts : List (Nat × Addr × Value)) : Nat → Array Bool → Act → World → Prop
  | 0, listed, a, w => Region.ready md ops listed = [] ∧ Q .normal a w
  | fuel + 1, listed, a, w =>
    (Region.ready md ops listed = [] → Q .normal a w) ∧
    ∀ i ∈ Region.ready md ops listed, wpOp P ops Q i (fun a' w' => CF facts (listed.setIfInBounds i true) w' ∧ wpAnyL P md ops Q facts fuel (listed.setIfInBounds i true) a' w') a w

theorem wpAny_of_L {facts : List (Nat × Addr × Value)} : ∀ (fuel : Nat) (listed : Array Bool) (a : Act) (w : World), wpAnyL P md ops Q facts fuel listed a w → wpAny P md ops Q fuel listed a w
  | 0, _, _, _, h => h
  | fuel + 1, _, _, _, h => ⟨h.1, fun i hi => wpOp_mono (fun a' w' h' => wpAny_of_L fuel _ a' w' h'.2) (h.2 i hi)⟩

/-- The worlds in which operation i may come up. -/
def upTo (md : Region.Mode) (ops : Array Oper) (facts : List (Nat × Addr × Value)) (i : Nat) (w : World) : Prop := ∃ listed, ClosedL md ops listed ∧ listed.getD i true = false ∧ CF facts listed w

theorem CF.set {facts : List (Nat × Addr × Value)} {listed : Array Bool} {w : World} {i : Nat} (hk : ∀ f ∈ facts, f.1 ≠ i) : CF facts (listed.setIfInBounds i true) w ↔ CF facts listed w := by
  constructor
  · intro h f hf hl; exact h f hf (by rw [getD_set_ne false (Ne.symm (hk f hf))]; exact hl)
  · intro h f hf hl; exact h f hf (by rw [getD_set_ne false (Ne.symm (hk f hf))] at hl; exact hl)

theorem wpAnyL_first {facts : List (Nat × Addr × Value)} {i : Nat} {oi : Oper} {v : Value} (hi : ops[i]? = some oi) (hsel : ∀ (j : Nat) (o : Oper) cs b, ops[j]? = some o → o.op ≠ .select cs b)
    (hQ : ∀ c a w, Q (.panic c) (a.put oi.dst v) w → Q (.panic c) a w) (hk : ∀ f ∈ facts, f.1 ≠ i) :
    ∀ (fuel : Nat) (listed : Array Bool) (a : Act) (w : World),
      (∀ j oj, ops[j]? = some oj → j ≠ i → listed.getD j true = false → (∀ e ∈ oj.after, Region.binds md e = true → e.on ≠ i) → oi.apart ops oj = true) →
      i ∈ Region.ready md ops listed → YieldsIf P ops (upTo md ops facts i) oi v a → ClosedL md ops listed → CF facts listed w →
      wpAnyL P md ops Q facts fuel (listed.setIfInBounds i true) (a.put oi.dst v) w → wpAnyL P md ops Q facts (fuel + 1) listed a w := by
  intro fuel
  induction fuel with
  | zero =>
    intro listed a w _ hr hy hcl hS H
    have hn := (mem_ready.1 hr).1
    refine ⟨fun h => (by rw [h] at hr; cases hr), fun j hj => ?_⟩
    by_cases hji : j = i
    · subst hji; exact hy.wpOp hi ⟨listed, hcl, hn, hS⟩ ⟨(CF.set hk).2 hS, H⟩
    · have := ready_mono hj hji
      rw [H.1] at this
      cases this
  | succ fuel ih =>
    intro listed a w hfree hr hy hcl hS H
    have hn := (mem_ready.1 hr).1
    refine ⟨fun h => (by rw [h] at hr; cases hr), fun j hj => ?_⟩
    by_cases hji : j = i
    · subst hji; exact hy.wpOp hi ⟨listed, hcl, hn, hS⟩ ⟨(CF.set hk).2 hS, H⟩
    · have h1 := H.2 j (ready_mono hj hji)
      obtain ⟨hjun, oj, hoj, hall⟩ := mem_ready.1 hj
      have hnot : ∀ e ∈ oj.after, Region.binds md e = true → e.on ≠ i := fun e he hb heq => by
        have h1 := hall e he hb
        have h0 := hn
        rw [heq] at h1
        rcases Nat.lt_or_ge i listed.size with h' | h'
        · simp [h'] at h0 h1; rw [h0] at h1; cases h1
        · simp [Array.getElem?_eq_none h'] at h1
      have h2 := wpOp_putIf hoj (hfree j oj hoj hji hjun hnot) (fun cs b => hsel i oi cs b hi) (fun cs b => hsel j oj cs b hoj) hQ hy h1
      have hfree' : ∀ k ok, ops[k]? = some ok → k ≠ i → (listed.setIfInBounds j true).getD k true = false →
          (∀ e ∈ ok.after, Region.binds md e = true → e.on ≠ i) → oi.apart ops ok = true := fun k ok hk hki hun hno => by
        refine hfree k ok hk hki ?_ hno
        by_cases hjk : j = k
        · subst hjk; exact hjun
        · rw [getD_set_ne true hjk] at hun; exact hun
      refine wpOp_mono (fun a' w' h3 => ?_) h2
      have h4 := h3.2.1
      rw [Array.setIfInBounds_comm _ _ (Ne.symm hji), CF.set hk] at h4
      refine ⟨h4, ih (listed.setIfInBounds j true) a' w' hfree' (ready_mono hr (Ne.symm hji)) h3.1 (hcl.step hj) h4 ?_⟩
      rw [Array.setIfInBounds_comm _ _ hji]
      exact h3.2.2

/-- Take operation i first. -/
theorem takeL {facts : List (Nat × Addr × Value)} (i : Nat) {oi : Oper} {v : Value} {fuel : Nat} {listed : Array Bool} {a : Act} {w : World} (hi : ops[i]? = some oi)
    (hs : Region.noSelect ops = true) (hf : Region.free md ops listed i = true) (hr : (Region.ready md ops listed).contains i = true)
    (hk : facts.all (fun f => f.1 != i) = true) (hQ : ∀ c a w, Q (.panic c) (a.put oi.dst v) w → Q (.panic c) a w) (hcl : ClosedL md ops listed) (hS : CF facts listed w) (hy : YieldsIf P ops (upTo md ops facts i) oi v a)
    (h : ClosedL md ops (listed.setIfInBounds i true) → CF facts (listed.setIfInBounds i true) w → wpAnyL P md ops Q facts fuel (listed.setIfInBounds i true) (a.put oi.dst v) w) : wpAnyL P md ops Q facts (fuel + 1) listed a w := by
  have hr' : i ∈ Region.ready md ops listed := by simpa using hr
  have hk' : ∀ f ∈ facts, f.1 ≠ i := fun f hf => by have := List.all_eq_true.1 hk f hf; simpa using this
  exact wpAnyL_first hi (Region.noSelect_spec hs) hQ hk' fuel listed a w (Region.free_spec hi hf) hr' hy hcl hS (h (hcl.step hr') ((CF.set hk').2 hS))

def AllReadyL (P : Program) (md : Region.Mode) (ops : Array Oper) (Q : Exit → Act → World → Prop) (facts : List (Nat × Addr × Value)) (fuel : Nat) (listed : Array Bool) (a : Act) (w : World) (rs : List Nat) : Prop :=
  ∀ i ∈ rs, wpOp P ops Q i (fun a' w' => CF facts (listed.setIfInBounds i true) w' ∧ wpAnyL P md ops Q facts fuel (listed.setIfInBounds i true) a' w') a w
theorem AllReadyL.nil {facts : List (Nat × Addr × Value)} {fuel : Nat} {listed : Array Bool} {a : Act} {w : World} : AllReadyL P md ops Q facts fuel listed a w [] := fun _ h => by cases h
theorem AllReadyL.cons {facts : List (Nat × Addr × Value)} {fuel : Nat} {listed : Array Bool} {a : Act} {w : World} {i : Nat} {o : Oper} {rs : List Nat} (ho : ops[i]? = some o)
    (h : ∀ K' : Act → World → Prop, Shut (∀ a w, CF facts (listed.setIfInBounds i true) w → (CF facts (listed.setIfInBounds i true) w → wpAnyL P md ops Q facts fuel (listed.setIfInBounds i true) a w) → K' a w) → if Region.wanted o (yielded ops a.tmps) = true then Oper.wp P o a w K' Q else K' (a.put o.dst undef) w)
    (hs : AllReadyL P md ops Q facts fuel listed a w rs) : AllReadyL P md ops Q facts fuel listed a w (i :: rs) := fun j hj => by
  rcases List.mem_cons.1 hj with rfl | hj
  · exact wpOp_step ho (fun K' hK => h K' (fun a w hS hW => hK a w ⟨hS, hW hS⟩))
  · exact hs j hj

/-- Whichever may come up now. -/
theorem stepL {facts : List (Nat × Addr × Value)} (rs : List Nat) {fuel : Nat} {listed : Array Bool} {a : Act} {w : World} (hr : Region.ready md ops listed = rs) (hne : rs ≠ []) (hcl : ClosedL md ops listed)
    (h : (∀ i ∈ rs, ClosedL md ops (listed.setIfInBounds i true)) → AllReadyL P md ops Q facts fuel listed a w rs) : wpAnyL P md ops Q facts (fuel + 1) listed a w :=
  ⟨fun h0 => absurd (hr ▸ h0) hne, hr ▸ h (fun i hi => hcl.step (hr ▸ hi))⟩
theorem doneL {facts : List (Nat × Addr × Value)} {listed : Array Bool} {a : Act} {w : World} (hr : Region.ready md ops listed = []) (h : Q .normal a w) : ∀ fuel, wpAnyL P md ops Q facts fuel listed a w
  | 0 => ⟨hr, h⟩
  | _ + 1 => ⟨fun _ => h, by rw [hr]; simp⟩

theorem CF.drew {facts : List (Nat × Addr × Value)} {w : World} (h : ∀ f ∈ facts, w.cell? f.2.1 = some f.2.2) (listed : Array Bool) : CF facts listed w.drew := fun f hf _ => by
  exact h f hf

theorem CF.step {facts : List (Nat × Addr × Value)} {listed : Array Bool} {w w' : World} {i : Nat} (h : CF facts listed w) (hi : i < listed.size)
    (hc : ∀ f ∈ facts, f.1 ≠ i → w.cell? f.2.1 = some f.2.2 → w'.cell? f.2.1 = some f.2.2) : CF facts (listed.setIfInBounds i true) w' := fun f hf hl => by
  by_cases he : f.1 = i
  · rw [he] at hl; simp [hi] at hl
  · exact hc f hf he (h f hf (by rwa [getD_set_ne false (Ne.symm he)] at hl))
theorem CF.below {facts : List (Nat × Addr × Value)} {listed : Array Bool} {w w' : World} {i : Nat} (h : CF facts listed w) (hi : i < listed.size) (hb : Below w.heap.size w w') : CF facts (listed.setIfInBounds i true) w' :=
  h.step hi fun f _ _ hc => (hb.cell (cell_lt hc)).trans hc
theorem CF.store {facts : List (Nat × Addr × Value)} {listed : Array Bool} {w : World} {i : Nat} (h : CF facts listed w) (hi : i < listed.size) (p : Addr) (v : Value)
    (hp : ∀ f ∈ facts, f.1 ≠ i → p.block ≠ f.2.1.block) : CF facts (listed.setIfInBounds i true) (w.setCell p v) :=
  h.step hi fun f hf he hc => (World.cell?_setCell_far w p f.2.1 v (hp f hf he)).trans hc
theorem CF.grown {facts : List (Nat × Addr × Value)} {listed : Array Bool} {w w' : World} {i : Nat} {row : Option Nat} (h : CF facts listed w) (hi : i < listed.size) (hg : w.grownBy w' row)
    (hr : ∀ f ∈ facts, some f.2.1.block ≠ row) : CF facts (listed.setIfInBounds i true) w' :=
  h.step hi fun f hf _ hc => hg.cell hc (hr f hf)

theorem wp_region_L {id : Nat} {a : Act} {w : World} (facts : List (Nat × Addr × Value)) (hm : P.follows .mixedOrders = true) (h0 : ∀ f ∈ facts, w.cell? f.2.1 = some f.2.2)
    (h : ClosedL .any ops (Array.replicate ops.size false) → CF facts (Array.replicate ops.size false) w.drew → wpAnyL P .any ops Q facts ops.size (Array.replicate ops.size false) a w.drew) : (Code.region id ops true).wp P Q a w :=
  wp_region_any hm (wpAny_of_L _ _ _ _ (h ClosedL.start (CF.drew h0 _)))
theorem wpIn_region_L {l : Nat} {id : Nat} {a : Act} {w : World} (facts : List (Nat × Addr × Value)) (hm : P.follows .mixedOrders = true) (hd : noDefer ops = true) (hQ : ∀ a w, ¬ Q .outgrown a w) (h0 : ∀ f ∈ facts, w.cell? f.2.1 = some f.2.2)
    (h : ClosedL .any ops (Array.replicate ops.size false) → CF facts (Array.replicate ops.size false) w.drew → wpAnyL P .any ops Q facts ops.size (Array.replicate ops.size false) a w.drew) : (Code.region id ops true).wpIn (Fence.wide.inRound l) 0 P Q a w :=
  wpIn_region_any hm (wpAnyIn_of_any (noDefer_spec hd) (fun ⟨a, w, h⟩ => hQ a w h) _ _ _ _ (wpAny_of_L _ _ _ _ (h ClosedL.start (CF.drew h0 _))))
end
/-! What comes behind a region stays out of sight while the region is walked. -/
def onlyN (K : Act → World → Prop) : Exit → Act → World → Prop
  | .normal, a, w => K a w
  | _, _, _ => False
theorem wp_K {P : Program} {c : Code} {Q : Exit → Act → World → Prop} {a : Act} {w : World} (h : ∀ K : Act → World → Prop, Shut (∀ a w, Q .normal a w → K a w) → c.wp P (onlyN K) a w) : c.wp P Q a w :=
  wp_mono (h (fun a w => Q .normal a w) (fun _ _ h => h)) (fun e a w hq => by cases e <;> first | exact hq | exact hq.elim)
theorem wpIn_K {P : Program} {F : Fence} {n : Nat} {c : Code} {Q : Exit → Act → World → Prop} {a : Act} {w : World} (h : ∀ K : Act → World → Prop, Shut (∀ a w, Q .normal a w → K a w) → c.wpIn F n P (onlyN K) a w) : c.wpIn F n P Q a w :=
  wpIn_mono (h (fun a w => Q .normal a w) (fun _ _ h => h)) (fun e a w hq => by cases e <;> first | exact hq | exact hq.elim)
theorem onlyN_outgrown (K : Act → World → Prop) : ∀ a w, ¬ onlyN K .outgrown a w := fun _ _ h => h
end Go.Proofs.YtoinabapaeebfaaGreatDoor
