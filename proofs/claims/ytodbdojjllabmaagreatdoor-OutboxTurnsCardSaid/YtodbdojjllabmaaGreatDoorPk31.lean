/- From what a row's frame knows of a slice of truths to RowAt. -/
import Derived.Test.YtodbdojjllabmaaGreatDoorPk29
namespace Go.Proofs.YtodbdojjllabmaaGreatDoor
open Go.RowKit Go.Shelf

theorem bools_row {w : World} {a : Addr} {len cap : Nat} {B : Nat → Bool} (hl : len ≤ cap) (hm : cap ≤ maxLen) (hc : ∀ i, i < cap → w.cell? (a.add i) = some (.bool (B i))) : RowAt w (some a) len cap (bls ((List.range len).map B)) := by
  refine ⟨by simp [bls], hl, hm, (fun e => by cases e), fun i hi => ?_⟩
  have h0 := hc i (by omega)
  obtain ⟨b, off, spot⟩ := a
  have hspot : spot = none := by
    have h1 := hc 0 (by omega)
    simpa [Addr.add] using World.cell?_spot h1
  subst hspot
  refine ⟨b, off, rfl, ?_⟩
  have e1 : (bls ((List.range len).map B))[i]? = some (.bool (B i)) := by simp [bls, hi]
  rw [e1, ← h0]
  by_cases h0 : i = 0
  · subst h0; simp [Addr.add]
  · simp [Addr.add, h0]
end Go.Proofs.YtodbdojjllabmaaGreatDoor
