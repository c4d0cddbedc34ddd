/- From what a row's frame knows of its arguments to the words of these texts. · From what a row's frame knows of a slice of texts to RowAt. -/
import Derived.Test.YtoinabapaeebfaaGreatDoorPk01
import Derived.Test.YtoinabapaeebfaaGreatDoorProg
import Derived.Test.YtoinabapaeebfaaGreatDoorPk41
set_option linter.unusedSimpArgs false
set_option linter.unusedVariables false
namespace Go.Proofs.YtoinabapaeebfaaGreatDoor
open Go.RowKit Go.Shelf

/-- A slice of integers that came in: nil, or a row of 'cap' cells, the numbers 'zs', the first 'len' of which are its elements. -/
def IsRow (k : IntKind) (w : World) (a : Option Addr) (len cap : Nat) (zs : List Int) : Prop :=
  (a = none ∧ len = 0 ∧ cap = 0 ∧ zs = []) ∨
  ∃ x, a = some x ∧ len ≤ cap ∧ cap ≤ maxLen ∧ zs.length = cap ∧ (∀ i, i < zs.length → w.cell? (x.add i) = some (.int k (zs.getD i 0))) ∧ ∀ n ∈ zs, (Lit.int k n).wf = true

theorem IsRow.row {k : IntKind} {w : World} {a : Option Addr} {len cap : Nat} {zs : List Int} (h : IsRow k w a len cap zs) : RowAt w a len cap (ns k (zs.take len)) ∧ ∀ n ∈ zs.take len, (Lit.int k n).wf = true := by
  rcases h with ⟨rfl, rfl, rfl, rfl⟩ | ⟨x, rfl, hl, hm, hz, hc, hwf⟩
  · exact ⟨RowAt.empty w, by simp⟩
  · refine ⟨⟨by simp [ns]; omega, hl, hm, (fun e => by cases e), fun i hi => ?_⟩, fun n hn => hwf n (List.mem_of_mem_take hn)⟩
    have h0 := hc i (by omega)
    obtain ⟨b, off, spot⟩ := x
    have hspot : spot = none := by
      have h1 := hc 0 (by omega)
      simpa [Addr.add] using World.cell?_spot h1
    subst hspot
    refine ⟨b, off, rfl, ?_⟩
    have e1 : (ns k (zs.take len))[i]? = some (.int k (zs.getD i 0)) := by
      rw [ns_get k _ i (by simp; omega), List.getElem?_take_of_lt hi]
      rfl
    rw [e1, ← h0]
    by_cases h0 : i = 0
    · subst h0; simp [Addr.add]
    · simp [Addr.add, h0]

theorem IsRow.bytes {w : World} {a : Option Addr} {len cap : Nat} {zs : List Int} (h : IsRow .u8 w a len cap zs) : ∃ l : List UInt8, RowAt w a len cap (bs l) := by
  obtain ⟨h1, h2⟩ := h.row
  refine ⟨(zs.take len).map fun z => UInt8.ofNat z.toNat, ?_⟩
  have e : bs ((zs.take len).map fun z => UInt8.ofNat z.toNat) = ns .u8 (zs.take len) := by
    simp only [bs, ns, List.map_map]
    refine List.map_congr_left fun z hz => ?_
    have hw := h2 z hz
    simp only [Lit.wf, Bool.and_eq_true, decide_eq_true_eq] at hw
    have hmin : IntKind.u8.min = 0 := rfl
    have hmax : IntKind.u8.max = 255 := rfl
    simp only [Function.comp]
    congr 1
    rw [UInt8.toNat_ofNat']
    omega
  rw [e]; exact h1
theorem wf_u8 {z : Int} (h : (Lit.int .u8 z).wf = true) : 0 ≤ z ∧ z ≤ 255 := by
  simp only [Lit.wf, Bool.and_eq_true, decide_eq_true_eq] at h
  have hmin : IntKind.u8.min = 0 := rfl
  have hmax : IntKind.u8.max = 255 := rfl
  omega
end Go.Proofs.YtoinabapaeebfaaGreatDoor
namespace Go.Proofs.YtoinabapaeebfaaGreatDoor
open Go.RowKit Go.Shelf

theorem texts_row {w : World} {a : Addr} {len cap : Nat} {ss : List ByteArray} (hl : len ≤ cap) (hm : cap ≤ maxLen) (hz : ss.length = cap) (hc : ∀ i, i < ss.length → w.cell? (a.add i) = some (.string (ss.getD i ByteArray.empty))) : ∃ z : List (List UInt8), RowAt w (some a) len cap (z.map wStr) := by
  refine ⟨(ss.take len).map (fun s => s.data.toList), ⟨by simp; omega, hl, hm, (fun e => by cases e), fun i hi => ?_⟩⟩
  have h0 := hc i (by omega)
  obtain ⟨b, off, spot⟩ := a
  have hspot : spot = none := by
    have h1 := hc 0 (by omega)
    simpa [Addr.add] using World.cell?_spot h1
  subst hspot
  refine ⟨b, off, rfl, ?_⟩
  have e1 : (((ss.take len).map (fun s => s.data.toList)).map wStr)[i]? = some (.string (ss.getD i ByteArray.empty)) := by
    rw [List.getElem?_map, List.getElem?_map, List.getElem?_take_of_lt hi, List.getD, List.getElem?_eq_getElem (by omega)]
    rfl
  rw [e1, ← h0]
  by_cases h0 : i = 0
  · subst h0; simp [Addr.add]
  · simp [Addr.add, h0]
end Go.Proofs.YtoinabapaeebfaaGreatDoor
