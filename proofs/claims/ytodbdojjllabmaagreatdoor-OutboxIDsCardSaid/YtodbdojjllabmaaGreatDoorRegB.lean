/- Regions: two things that act may come up now. -/
import Derived.Test.YtodbdojjllabmaaGreatDoorReg
namespace Go.Proofs.YtodbdojjllabmaaGreatDoor
open Go.RowKit Go.Shelf
section
variable {P : Program} {ops : Array Oper} {KQ : Act → World → Prop} {facts : List Fact} {taken : List Nat} {a : Act} {w : World}

/-- Two that act may come up now: both ways. -/
theorem stepQ2 (j1 j2 : Nat) {o1 o2 : Oper} (hj1 : ops[j1]? = some o1) (hj2 : ops[j2]? = some o2) (hr : Region.ready .any ops (listedOf ops taken) = [j1, j2]) (hlt : taken.length < ops.size)
    (hw1 : Region.wanted o1 (yielded ops a.tmps) = true) (hw2 : Region.wanted o2 (yielded ops a.tmps) = true)
    (h1 : ∀ K : Act → World → Prop, (∀ a' w', Both (HoldR (j1 :: taken) facts w') (atR P ops KQ facts (j1 :: taken) a' w') → K a' w') → o1.wp P a w K (onlyN KQ))
    (h2 : ∀ K : Act → World → Prop, (∀ a' w', Both (HoldR (j2 :: taken) facts w') (atR P ops KQ facts (j2 :: taken) a' w') → K a' w') → o2.wp P a w K (onlyN KQ)) : atR P ops KQ facts taken a w := by
  intro ht hcl hfr
  have hl1 : j1 < ops.size := (Array.getElem?_eq_some_iff.1 hj1).1
  have hl2 : j2 < ops.size := (Array.getElem?_eq_some_iff.1 hj2).1
  have go : ∀ (j : Nat) (oj : Oper), ops[j]? = some oj → j < ops.size → j ∈ Region.ready .any ops (listedOf ops taken) → Region.wanted oj (yielded ops a.tmps) = true →
      (∀ K : Act → World → Prop, (∀ a' w', Both (HoldR (j :: taken) facts w') (atR P ops KQ facts (j :: taken) a' w') → K a' w') → oj.wp P a w K (onlyN KQ)) →
      wpOp P ops (onlyN KQ) j (fun a' w' => FR facts ((listedOf ops taken).setIfInBounds j true) w' ∧ wpAnyR P .any ops (onlyN KQ) facts (ops.size - (j :: taken).length) ((listedOf ops taken).setIfInBounds j true) a' w') a w := by
    intro j oj hj hlj hrj hw h
    have ht' : ∀ i ∈ j :: taken, i < ops.size := fun i hi => by exact (List.mem_cons.1 hi).elim (fun e => e ▸ hlj) (ht i)
    unfold wpOp
    rw [hj]
    dsimp only
    rw [if_pos hw]
    refine .inl (h _ fun a' w' hb => ?_)
    have hf : FR facts (listedOf ops (j :: taken)) w' := fun f hf hl => hb.one.mem f hf (by rw [listedOf_get _ _ ht'] at hl; exact hl)
    exact ⟨hf, hb.two ht' (hcl.step hrj) hf⟩
  have e1 : ops.size - taken.length = (ops.size - (j1 :: taken).length) + 1 := by simp only [List.length_cons]; omega
  rw [e1]
  refine ⟨fun h0 => absurd (hr.symm.trans h0) (by simp), fun i hi => ?_⟩
  rw [hr] at hi
  have hi' : i = j1 ∨ i = j2 := by simpa using hi
  rcases hi' with rfl | rfl
  · exact go _ _ hj1 hl1 (by rw [hr]; simp) hw1 h1
  · exact go _ _ hj2 hl2 (by rw [hr]; simp) hw2 h2
end

section
variable {P : Program} {ops : Array Oper} {KQ : Act → World → Prop} {facts : List Fact} {taken : List Nat} {a : Act} {w : World}
theorem nilQ (i : Nat) {oi : Oper} (hi : ops[i]? = some oi) (hB : takeB ops (facts.map (·.1)) taken i = true) (hw : Region.wanted oi (yielded ops a.tmps) = true) {x : Operand} (hop : oi.op = .nilCheck x) {p : Addr} (hx : a.eval x = .pointer (some p))
    (h : atR P ops KQ facts (i :: taken) (a.put oi.dst (.pointer (some p))) w) : atR P ops KQ facts taken a w := by
  refine readQ i hi hB _ hw (fun w' _ => ?_) h
  simp [execOp, hop, hx]
end
end Go.Proofs.YtodbdojjllabmaaGreatDoor
