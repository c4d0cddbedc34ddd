/- From what a row's frame knows of calls to ActsAt. -/
import Derived.Test.YtodbdojjllabmaaGreatDoorPk34
import Derived.ProofKit
import Derived.OpenShut
import Derived.Deep.Slices
namespace Go.Proofs.YtodbdojjllabmaaGreatDoor
open Go.RowKit Go.Shelf Go.Deep
variable {H : Type} {enc : TypeId × Value → H}

instance : Inhabited ActV := ⟨⟨0, 0, [], [], false, 0, 0⟩⟩
set_option maxRecDepth 100000 in
theorem act_of {w : World} {base : Nat} {sp : Nat → Bool} {held : Bool} {fuel : Nat} {cs : List Value} {x : DataW H × List MemPlace} (h : DataW.trod enc Tryz.prog w base sp held fuel 63 cs = some x) : ∃ y : ActV, cs = y.cells.toList := by
  obtain ⟨xs, k, _, _, hlen, hxl, hf⟩ := DataW.trod_struct Tryz.underlying63 h
  have c7 : Tryz.prog.cellsOf 63 = 7 := by kernel_rfl
  rw [c7] at hlen
  have i1 : Tryz.prog.cellsOf 3 = 1 := by kernel_rfl
  have i2 : Tryz.prog.cellsOf 9 = 1 := by kernel_rfl
  have i3 : Tryz.prog.cellsOf 4 = 1 := by kernel_rfl
  have i4 : Tryz.prog.cellsOf 38 = 1 := by kernel_rfl
  have i5 : Tryz.prog.cellsOf 2 = 1 := by kernel_rfl
  match cs, hlen with
  | [v0, v1, v2, v3, v4, v5, v6], _ =>
    have g0 : DataW.trod enc Tryz.prog w base sp held k 3 (([v0, v1, v2, v3, v4, v5, v6].drop 0).take (Tryz.prog.cellsOf 3)) = xs[0]? := hf 0 _ rfl
    have g1 : DataW.trod enc Tryz.prog w base sp held k 3 (([v0, v1, v2, v3, v4, v5, v6].drop 1).take (Tryz.prog.cellsOf 3)) = xs[1]? := hf 1 _ rfl
    have g2 : DataW.trod enc Tryz.prog w base sp held k 9 (([v0, v1, v2, v3, v4, v5, v6].drop 2).take (Tryz.prog.cellsOf 9)) = xs[2]? := hf 2 _ rfl
    have g3 : DataW.trod enc Tryz.prog w base sp held k 9 (([v0, v1, v2, v3, v4, v5, v6].drop 3).take (Tryz.prog.cellsOf 9)) = xs[3]? := hf 3 _ rfl
    have g4 : DataW.trod enc Tryz.prog w base sp held k 4 (([v0, v1, v2, v3, v4, v5, v6].drop 4).take (Tryz.prog.cellsOf 4)) = xs[4]? := hf 4 _ rfl
    have g5 : DataW.trod enc Tryz.prog w base sp held k 38 (([v0, v1, v2, v3, v4, v5, v6].drop 5).take (Tryz.prog.cellsOf 38)) = xs[5]? := hf 5 _ rfl
    have g6 : DataW.trod enc Tryz.prog w base sp held k 2 (([v0, v1, v2, v3, v4, v5, v6].drop 6).take (Tryz.prog.cellsOf 2)) = xs[6]? := hf 6 _ rfl
    rw [i1] at g0 g1
    rw [i2] at g2 g3
    rw [i3] at g4
    rw [i4] at g5
    rw [i5] at g6
    have hx7 : xs.length = 7 := hxl
    rw [List.getElem?_eq_getElem (by omega)] at g0 g1 g2 g3 g4 g5 g6
    obtain ⟨n0, e0, _⟩ := DataW.trod_int Tryz.underlying3 g0
    obtain ⟨n1, e1, _⟩ := DataW.trod_int Tryz.underlying3 g1
    obtain ⟨s2, e2, _⟩ := DataW.trod_string Tryz.underlying9 g2
    obtain ⟨s3, e3, _⟩ := DataW.trod_string Tryz.underlying9 g3
    obtain ⟨b4, e4, _⟩ := DataW.trod_bool Tryz.underlying4 g4
    obtain ⟨n5, e5, _⟩ := DataW.trod_int Tryz.underlying38 g5
    obtain ⟨n6, e6, _⟩ := DataW.trod_int Tryz.underlying2 g6
    simp at e0 e1 e2 e3 e4 e5 e6
    subst e0 e1 e2 e3 e4 e5 e6
    exact ⟨⟨n0, n1, s2.data.toList, s3.data.toList, b4, n5, n6⟩, by simp [ActV.cells]⟩
theorem cell_blk_lt {w : World} {b o : Nat} {v : Value} (h : w.cell? ⟨b, o, none⟩ = some v) : b < w.heap.size := by
  rcases Nat.lt_or_ge b w.heap.size with h1 | h1
  · exact h1
  · unfold World.cell? at h
    simp [Array.getElem?_eq_none h1] at h
theorem acts_of {w : World} {base : Nat} {held : Bool} {fuel : Nat} {cs : List Value} {x : DataW H × List MemPlace} (h : DataW.trod enc Tryz.prog w base (fun _ => true) held fuel 55 cs = some x) :
    ∃ a n cap xs, cs = [.slice a n cap] ∧ ActsAt w a n cap xs := by
  have c7 : Tryz.prog.cellsOf 63 = 7 := by kernel_rfl
  rcases open_slice Tryz.underlying55 h with ⟨hcs, _⟩ | ⟨a, len, cap, m, n, D, Pl, rfl, hb, hl, hm, hmm, _, hx⟩
  · exact ⟨none, 0, 0, [], hcs, rfl, Nat.le_refl _, Nat.zero_le _, fun i x hx => by simp at hx⟩
  · simp only [if_true] at hmm
    subst hmm
    rw [c7] at hx
    have each : ∀ i, i < m → ∃ y : ActV, w.cells? base (a.add (i * 7)) 7 = some y.cells.toList := fun i hi => by
      obtain ⟨cs', h1, h2⟩ := hx i hi
      obtain ⟨y, rfl⟩ := act_of h2
      exact ⟨y, h1⟩
    obtain ⟨Y, hY⟩ := choose_lt each
    refine ⟨some a, len, m, (List.range len).map Y, rfl, by simp, hl, hm, fun i y hy => ?_⟩
    have hi : i < len := by have := (List.getElem?_eq_some_iff.1 hy).1; simpa using this
    have hy' : Y i = y := by simpa [hi] using hy
    have h1 := hY i (by omega)
    rw [hy'] at h1
    obtain ⟨_, hlen, hcell⟩ := World.cells?_some h1
    have hc0 := hcell 0 (by omega)
    obtain ⟨b, off, spot⟩ := a
    have hc0' : w.cell? (((⟨b, off, spot⟩ : Addr).add (i * 7)).add 0) = some (.int .i64 y.kind) := hc0
    have hspot : spot = none := by
      obtain ⟨_, _, hz⟩ := World.cells?_some (hY 0 (by omega))
      have hz0 : w.cell? (((⟨b, off, spot⟩ : Addr).add (0 * 7)).add 0) = some (.int .i64 (Y 0).kind) := hz 0 (by omega)
      exact World.cell?_spot hz0
    subst hspot
    simp only [Addr.add_mid] at hcell hc0'
    refine ⟨b, off, rfl, ?_, fun j v hj => ?_⟩
    · exact cell_blk_lt hc0'
    · have hj7 : j < 7 := by have := (List.getElem?_eq_some_iff.1 hj).1; simpa [ActV.cells] using this
      rw [hcell j hj7]; exact hj
open Go.WideShapes in
theorem okWide_array {P : Program} {w : World} {r : Reach} {base : Nat} {t e : TypeId} {n : Nat} {v : Value} (ht : P.underlying t = some (.array n e)) (h : Value.okWide P w r base t v) : ∃ cs, v = .agg cs ∧ cs.size = P.cellsOf t := by
  simp only [Value.okWide, ht] at h
  obtain ⟨cs, h1, h2, _⟩ := h
  exact ⟨cs, h1, h2⟩
set_option maxRecDepth 100000 in
theorem pair_of {w : World} {base : Nat} {r : Reach} {v : Value} {sp : Nat → Bool} {held : Bool} {x : DataW H × List MemPlace} (hv : Value.okWide Tryz.prog w r base 54 v) (h : ∃ fuel, DataW.trod enc Tryz.prog w 0 sp held fuel 54 v.cells.toList = some x) :
    ∃ a b, v = .agg #[.int .i64 a, .int .i64 b] := by
  obtain ⟨cs, rfl, hs⟩ := okWide_array Tryz.underlying54 hv
  obtain ⟨fuel, h⟩ := h
  obtain ⟨xs, m, _, _, hlen, hxl, hf⟩ := DataW.trod_array Tryz.underlying54 h
  have c1 : Tryz.prog.cellsOf 3 = 1 := by kernel_rfl
  have c2 : Tryz.prog.cellsOf 54 = 2 := by kernel_rfl
  rw [c2] at hs
  obtain ⟨l⟩ := cs
  match l, hs with
  | [v0, v1], _ =>
    have g0 := hf 0 (by omega)
    have g1 := hf 1 (by omega)
    rw [c1] at g0 g1
    rw [List.getElem?_eq_getElem (by omega)] at g0 g1
    obtain ⟨n0, e0, _⟩ := DataW.trod_int Tryz.underlying3 g0
    obtain ⟨n1, e1, _⟩ := DataW.trod_int Tryz.underlying3 g1
    simp [Value.cells] at e0 e1
    subst e0 e1
    exact ⟨n0, n1, rfl⟩
end Go.Proofs.YtodbdojjllabmaaGreatDoor
