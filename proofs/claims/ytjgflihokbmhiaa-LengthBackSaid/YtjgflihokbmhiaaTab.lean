/- From what a row's frame knows of a slice of byte slices to the word TabAt. -/
import Derived.Test.YtjgflihokbmhiaaLawsB2
import Derived.Test.YtjgflihokbmhiaaRow
import Derived.Deep.Matrix
namespace Go.Proofs.Ytjgflihokbmhiaa
open Go.RowKit Go.Shelf

theorem tab_of_rows {w : World} {a : Addr} {len cap : Nat} {A : Nat → Option Addr} {L C : Nat → Nat} {Z : Nat → List Int} (hl : len ≤ cap) (hm : cap ≤ maxLen)
    (h : ∀ r, r < cap → w.cell? (a.add r) = some (.slice (A r) (L r) (C r)) ∧ L r ≤ C r ∧ C r ≤ maxLen ∧ (Z r).length = C r ∧ (∀ n ∈ Z r, (Lit.int .u8 n).wf = true) ∧ (A r = none → C r = 0) ∧
      ∀ a', A r = some a' → 0 ≤ a'.block ∧ ∀ c, c < C r → w.cell? (a'.add c) = some (.int .u8 ((Z r).getD c 0))) : ∃ B, TabAt w (some a) len cap B := by
  have each : ∀ r, r < cap → ∃ l : List UInt8, RowAt w (A r) (L r) (C r) (bs l) := by
    intro r hr
    obtain ⟨_, h2, h3, h4, h5, h6, h7⟩ := h r hr
    refine IsRow.bytes (zs := Z r) ?_
    cases ha : A r with
    | none =>
      have h8 := h6 ha
      have h9 : Z r = [] := List.eq_nil_of_length_eq_zero (by omega)
      exact .inl ⟨rfl, by omega, h8, h9⟩
    | some x => exact .inr ⟨x, rfl, h2, h3, h4, fun i hi => (h7 x ha).2 i (by omega), h5⟩
  refine ⟨(List.range len).map fun r => if hr : r < cap then Classical.choose (each r hr) else [], by simp, hl, hm, fun r hr => ?_⟩
  have hrl : r < len := by simpa using hr
  have hrc : r < cap := by omega
  have h1 := (h r hrc).1
  obtain ⟨b, off, spot⟩ := a
  have hspot : spot = none := by
    have h2 := (h 0 (by omega)).1
    simpa [Addr.add] using World.cell?_spot h2
  subst hspot
  refine ⟨b, off, A r, L r, C r, rfl, ?_, ?_⟩
  · rw [← h1]
    by_cases h0 : r = 0
    · subst h0; simp [Addr.add]
    · simp [Addr.add, h0]
  · have e : ((List.range len).map fun r => if hr : r < cap then Classical.choose (each r hr) else [])[r]'hr = Classical.choose (each r hrc) := by simp [hrc]
    rw [e]
    exact Classical.choose_spec (each r hrc)
theorem tab_nil (w : World) : TabAt w none 0 0 [] := ⟨rfl, Nat.le_refl _, Nat.zero_le _, fun r hr => by simp at hr⟩

theorem walk_LengthBack (a : Option Addr) (n cap : Nat) (B : List (List UInt8)) (w : World) (h : TabAt w a n cap B) (come : Int) (wc : (Lit.int .i64 come).wf = true) :
    Calls Try.prog 8 #[.slice a n cap, .int .i64 come] w fun e w' => e = .returned (.bool true) ∧ Below w.heap.size w w' := back_walk a n cap B come w h
end Go.Proofs.Ytjgflihokbmhiaa
