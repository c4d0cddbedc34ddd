/- Parts of the proof of ScriptCuts: contracts of functions that it reaches, and plain lemmas. No condition of their own. -/
import Derived.Test.YtkghejaimhoboaaGreatDoorPk13
import Derived.Test.YtkghejaimhoboaaGreatDoorPk50
set_option linter.unusedSimpArgs false
set_option linter.unusedVariables false
set_option maxRecDepth 100000
set_option maxHeartbeats 8000000
namespace Go.Proofs.YtkghejaimhoboaaGreatDoor
open Go.RowKit Go.Shelf
section
open Go.RowKit Go.Shelf Go.Deep
variable {H : Type} {enc : TypeId × Value -> H}
instance : Inhabited WantV := ⟨⟨[], 0⟩⟩
def pk0 : Pk := ⟨0, false, false, 0, [], [], 0, [], false, 0, false, noWill, false, false, [], [], false, 0, [], [], []⟩
def hd0 : Hd := ⟨none, 0, 0⟩
instance : Inhabited TnC := ⟨⟨⟨0, 0, pk0, [], 0, 0, []⟩, ⟨hd0, hd0, hd0⟩, hd0⟩⟩
theorem int_of {w : World} {base : Nat} {held : Bool} {fuel : Nat} {cs : List Value} {x : DataW H × List MemPlace} (h : DataW.trod enc Tryz.prog w base (fun _ => true) held fuel 3 cs = some x) : ∃ y : Int, cs = iCl y /\ True := by
 obtain ⟨n, e, _⟩ := DataW.trod_int Tryz.underlying3 h
 exact ⟨n, e, trivial⟩
theorem text_of {w : World} {base : Nat} {held : Bool} {fuel : Nat} {cs : List Value} {x : DataW H × List MemPlace} (h : DataW.trod enc Tryz.prog w base (fun _ => true) held fuel 9 cs = some x) : ∃ y : List UInt8, cs = sCl y /\ True := by
 obtain ⟨s, e, _⟩ := DataW.trod_string Tryz.underlying9 h
 exact ⟨s.data.toList, by simpa [sCl] using e, trivial⟩
theorem want_of {w : World} {base : Nat} {held : Bool} {fuel : Nat} {cs : List Value} {x : DataW H × List MemPlace} (h : DataW.trod enc Tryz.prog w base (fun _ => true) held fuel 169 cs = some x) : ∃ y : WantV, cs = y.cl /\ True := by
 obtain ⟨xs, k, _, _, hlen, hxl, hf⟩ := DataW.trod_struct Tryz.underlying169 h
 have c7 : Tryz.prog.cellsOf 169 = 2 := by kernel_rfl
 rw [c7] at hlen
 have i0 : Tryz.prog.cellsOf 9 = 1 := by kernel_rfl
 have i1 : Tryz.prog.cellsOf 3 = 1 := by kernel_rfl
 match cs, hlen with
 | [v0, v1], _ =>
  have g0 : DataW.trod enc Tryz.prog w base (fun _ => true) held k 9 (([v0, v1].drop 0).take (Tryz.prog.cellsOf 9)) = xs[0]? := hf 0 _ rfl
  have g1 : DataW.trod enc Tryz.prog w base (fun _ => true) held k 3 (([v0, v1].drop 1).take (Tryz.prog.cellsOf 3)) = xs[1]? := hf 1 _ rfl
  rw [i0] at g0
  rw [i1] at g1
  have hxn : xs.length = 2 := hxl
  rw [List.getElem?_eq_getElem (by omega)] at g0 g1
  obtain ⟨s0, e0, _⟩ := DataW.trod_string Tryz.underlying9 g0
  obtain ⟨n1, e1, _⟩ := DataW.trod_int Tryz.underlying3 g1
  simp only [List.drop_zero, List.drop_succ_cons, List.take_succ_cons, List.take_zero, List.cons.injEq, and_true] at e0 e1
  subst e0 e1;exact ⟨⟨s0.data.toList, n1⟩, by simp [WantV.cl], trivial⟩
theorem pk_of {w : World} {base : Nat} {held : Bool} {fuel : Nat} {cs : List Value} {x : DataW H × List MemPlace} (h : DataW.trod enc Tryz.prog w base (fun _ => true) held fuel 52 cs = some x) : ∃ (y : Pk) (h : H3), cs = y.cells h /\ y.In w h := by
 obtain ⟨xs, k, _, _, hlen, hxl, hf⟩ := DataW.trod_struct Tryz.underlying52 h
 have c7 : Tryz.prog.cellsOf 52 = 24 := by kernel_rfl
 rw [c7] at hlen
 have i0 : Tryz.prog.cellsOf 45 = 1 := by kernel_rfl
 have i1 : Tryz.prog.cellsOf 4 = 1 := by kernel_rfl
 have i2 : Tryz.prog.cellsOf 3 = 1 := by kernel_rfl
 have i3 : Tryz.prog.cellsOf 9 = 1 := by kernel_rfl
 have i4 : Tryz.prog.cellsOf 2 = 1 := by kernel_rfl
 have i5 : Tryz.prog.cellsOf 47 = 4 := by kernel_rfl
 have i6 : Tryz.prog.cellsOf 48 = 1 := by kernel_rfl
 have i7 : Tryz.prog.cellsOf 49 = 1 := by kernel_rfl
 have i8 : Tryz.prog.cellsOf 50 = 1 := by kernel_rfl
 match cs, hlen with
 | [v0, v1, v2, v3, v4, v5, v6, v7, v8, v9, v10, v11, v12, v13, v14, v15, v16, v17, v18, v19, v20, v21, v22, v23], _ =>
  have g0 : DataW.trod enc Tryz.prog w base (fun _ => true) held k 45 (([v0, v1, v2, v3, v4, v5, v6, v7, v8, v9, v10, v11, v12, v13, v14, v15, v16, v17, v18, v19, v20, v21, v22, v23].drop 0).take (Tryz.prog.cellsOf 45)) = xs[0]? := hf 0 _ rfl
  have g1 : DataW.trod enc Tryz.prog w base (fun _ => true) held k 4 (([v0, v1, v2, v3, v4, v5, v6, v7, v8, v9, v10, v11, v12, v13, v14, v15, v16, v17, v18, v19, v20, v21, v22, v23].drop 1).take (Tryz.prog.cellsOf 4)) = xs[1]? := hf 1 _ rfl
  have g2 : DataW.trod enc Tryz.prog w base (fun _ => true) held k 4 (([v0, v1, v2, v3, v4, v5, v6, v7, v8, v9, v10, v11, v12, v13, v14, v15, v16, v17, v18, v19, v20, v21, v22, v23].drop 2).take (Tryz.prog.cellsOf 4)) = xs[2]? := hf 2 _ rfl
  have g3 : DataW.trod enc Tryz.prog w base (fun _ => true) held k 3 (([v0, v1, v2, v3, v4, v5, v6, v7, v8, v9, v10, v11, v12, v13, v14, v15, v16, v17, v18, v19, v20, v21, v22, v23].drop 3).take (Tryz.prog.cellsOf 3)) = xs[3]? := hf 3 _ rfl
  have g4 : DataW.trod enc Tryz.prog w base (fun _ => true) held k 9 (([v0, v1, v2, v3, v4, v5, v6, v7, v8, v9, v10, v11, v12, v13, v14, v15, v16, v17, v18, v19, v20, v21, v22, v23].drop 4).take (Tryz.prog.cellsOf 9)) = xs[4]? := hf 4 _ rfl
  have g5 : DataW.trod enc Tryz.prog w base (fun _ => true) held k 9 (([v0, v1, v2, v3, v4, v5, v6, v7, v8, v9, v10, v11, v12, v13, v14, v15, v16, v17, v18, v19, v20, v21, v22, v23].drop 5).take (Tryz.prog.cellsOf 9)) = xs[5]? := hf 5 _ rfl
  have g6 : DataW.trod enc Tryz.prog w base (fun _ => true) held k 2 (([v0, v1, v2, v3, v4, v5, v6, v7, v8, v9, v10, v11, v12, v13, v14, v15, v16, v17, v18, v19, v20, v21, v22, v23].drop 6).take (Tryz.prog.cellsOf 2)) = xs[6]? := hf 6 _ rfl
  have g7 : DataW.trod enc Tryz.prog w base (fun _ => true) held k 9 (([v0, v1, v2, v3, v4, v5, v6, v7, v8, v9, v10, v11, v12, v13, v14, v15, v16, v17, v18, v19, v20, v21, v22, v23].drop 7).take (Tryz.prog.cellsOf 9)) = xs[7]? := hf 7 _ rfl
  have g8 : DataW.trod enc Tryz.prog w base (fun _ => true) held k 4 (([v0, v1, v2, v3, v4, v5, v6, v7, v8, v9, v10, v11, v12, v13, v14, v15, v16, v17, v18, v19, v20, v21, v22, v23].drop 8).take (Tryz.prog.cellsOf 4)) = xs[8]? := hf 8 _ rfl
  have g9 : DataW.trod enc Tryz.prog w base (fun _ => true) held k 2 (([v0, v1, v2, v3, v4, v5, v6, v7, v8, v9, v10, v11, v12, v13, v14, v15, v16, v17, v18, v19, v20, v21, v22, v23].drop 9).take (Tryz.prog.cellsOf 2)) = xs[9]? := hf 9 _ rfl
  have g10 : DataW.trod enc Tryz.prog w base (fun _ => true) held k 4 (([v0, v1, v2, v3, v4, v5, v6, v7, v8, v9, v10, v11, v12, v13, v14, v15, v16, v17, v18, v19, v20, v21, v22, v23].drop 10).take (Tryz.prog.cellsOf 4)) = xs[10]? := hf 10 _ rfl
  have g11 : DataW.trod enc Tryz.prog w base (fun _ => true) held k 47 (([v0, v1, v2, v3, v4, v5, v6, v7, v8, v9, v10, v11, v12, v13, v14, v15, v16, v17, v18, v19, v20, v21, v22, v23].drop 11).take (Tryz.prog.cellsOf 47)) = xs[11]? := hf 11 _ rfl
  have g12 : DataW.trod enc Tryz.prog w base (fun _ => true) held k 4 (([v0, v1, v2, v3, v4, v5, v6, v7, v8, v9, v10, v11, v12, v13, v14, v15, v16, v17, v18, v19, v20, v21, v22, v23].drop 15).take (Tryz.prog.cellsOf 4)) = xs[12]? := hf 12 _ rfl
  have g13 : DataW.trod enc Tryz.prog w base (fun _ => true) held k 4 (([v0, v1, v2, v3, v4, v5, v6, v7, v8, v9, v10, v11, v12, v13, v14, v15, v16, v17, v18, v19, v20, v21, v22, v23].drop 16).take (Tryz.prog.cellsOf 4)) = xs[13]? := hf 13 _ rfl
  have g14 : DataW.trod enc Tryz.prog w base (fun _ => true) held k 9 (([v0, v1, v2, v3, v4, v5, v6, v7, v8, v9, v10, v11, v12, v13, v14, v15, v16, v17, v18, v19, v20, v21, v22, v23].drop 17).take (Tryz.prog.cellsOf 9)) = xs[14]? := hf 14 _ rfl
  have g15 : DataW.trod enc Tryz.prog w base (fun _ => true) held k 9 (([v0, v1, v2, v3, v4, v5, v6, v7, v8, v9, v10, v11, v12, v13, v14, v15, v16, v17, v18, v19, v20, v21, v22, v23].drop 18).take (Tryz.prog.cellsOf 9)) = xs[15]? := hf 15 _ rfl
  have g16 : DataW.trod enc Tryz.prog w base (fun _ => true) held k 4 (([v0, v1, v2, v3, v4, v5, v6, v7, v8, v9, v10, v11, v12, v13, v14, v15, v16, v17, v18, v19, v20, v21, v22, v23].drop 19).take (Tryz.prog.cellsOf 4)) = xs[16]? := hf 16 _ rfl
  have g17 : DataW.trod enc Tryz.prog w base (fun _ => true) held k 3 (([v0, v1, v2, v3, v4, v5, v6, v7, v8, v9, v10, v11, v12, v13, v14, v15, v16, v17, v18, v19, v20, v21, v22, v23].drop 20).take (Tryz.prog.cellsOf 3)) = xs[17]? := hf 17 _ rfl
  have g18 : DataW.trod enc Tryz.prog w base (fun _ => true) held k 48 (([v0, v1, v2, v3, v4, v5, v6, v7, v8, v9, v10, v11, v12, v13, v14, v15, v16, v17, v18, v19, v20, v21, v22, v23].drop 21).take (Tryz.prog.cellsOf 48)) = xs[18]? := hf 18 _ rfl
  have g19 : DataW.trod enc Tryz.prog w base (fun _ => true) held k 49 (([v0, v1, v2, v3, v4, v5, v6, v7, v8, v9, v10, v11, v12, v13, v14, v15, v16, v17, v18, v19, v20, v21, v22, v23].drop 22).take (Tryz.prog.cellsOf 49)) = xs[19]? := hf 19 _ rfl
  have g20 : DataW.trod enc Tryz.prog w base (fun _ => true) held k 50 (([v0, v1, v2, v3, v4, v5, v6, v7, v8, v9, v10, v11, v12, v13, v14, v15, v16, v17, v18, v19, v20, v21, v22, v23].drop 23).take (Tryz.prog.cellsOf 50)) = xs[20]? := hf 20 _ rfl
  rw [i0] at g0
  rw [i1] at g1 g2 g8 g10 g12 g13 g16
  rw [i2] at g3 g17
  rw [i3] at g4 g5 g7 g14 g15
  rw [i4] at g6 g9
  rw [i5] at g11
  rw [i6] at g18
  rw [i7] at g19
  rw [i8] at g20
  have hxn : xs.length = 21 := hxl
  rw [List.getElem?_eq_getElem (by omega)] at g0 g1 g2 g3 g4 g5 g6 g7 g8 g9 g10 g11 g12 g13 g14 g15 g16 g17 g18 g19 g20
  obtain ⟨n0, e0, _⟩ := DataW.trod_int Tryz.underlying45 g0
  obtain ⟨b1, e1, _⟩ := DataW.trod_bool Tryz.underlying4 g1
  obtain ⟨b2, e2, _⟩ := DataW.trod_bool Tryz.underlying4 g2
  obtain ⟨n3, e3, _⟩ := DataW.trod_int Tryz.underlying3 g3
  obtain ⟨s4, e4, _⟩ := DataW.trod_string Tryz.underlying9 g4
  obtain ⟨s5, e5, _⟩ := DataW.trod_string Tryz.underlying9 g5
  obtain ⟨n6, e6, _⟩ := DataW.trod_int Tryz.underlying2 g6
  obtain ⟨s7, e7, _⟩ := DataW.trod_string Tryz.underlying9 g7
  obtain ⟨b8, e8, _⟩ := DataW.trod_bool Tryz.underlying4 g8
  obtain ⟨n9, e9, _⟩ := DataW.trod_int Tryz.underlying2 g9
  obtain ⟨b10, e10, _⟩ := DataW.trod_bool Tryz.underlying4 g10
  obtain ⟨wl, e11⟩ := will_of g11
  obtain ⟨b12, e12, _⟩ := DataW.trod_bool Tryz.underlying4 g12
  obtain ⟨b13, e13, _⟩ := DataW.trod_bool Tryz.underlying4 g13
  obtain ⟨s14, e14, _⟩ := DataW.trod_string Tryz.underlying9 g14
  obtain ⟨s15, e15, _⟩ := DataW.trod_string Tryz.underlying9 g15
  obtain ⟨b16, e16, _⟩ := DataW.trod_bool Tryz.underlying4 g16
  obtain ⟨n17, e17, _⟩ := DataW.trod_int Tryz.underlying3 g17
  obtain ⟨a18, n18, c18, l18, e18, hl18, hq18⟩ := ls_of WantV.cl (size := 2) Tryz.underlying48 (e := 169) (by kernel_rfl) (by decide) (fun _ => True) (fun h => want_of h) g18
  obtain ⟨a19, n19, c19, l19, e19, hl19, hq19⟩ := ls_of iCl (size := 1) Tryz.underlying49 (e := 3) (by kernel_rfl) (by decide) (fun _ => True) (fun h => int_of h) g19
  obtain ⟨a20, n20, c20, l20, e20, hl20, hq20⟩ := ls_of sCl (size := 1) Tryz.underlying50 (e := 9) (by kernel_rfl) (by decide) (fun _ => True) (fun h => text_of h) g20
  simp only [List.drop_zero, List.drop_succ_cons, List.take_succ_cons, List.take_zero, List.cons.injEq, and_true, WillV.vals] at e0 e1 e2 e3 e4 e5 e6 e7 e8 e9 e10 e11 e12 e13 e14 e15 e16 e17 e18 e19 e20
  obtain ⟨e11_0, e11_1, e11_2, e11_3⟩ := e11
  subst e0 e1 e2 e3 e4 e5 e6 e7 e8 e9 e10 e11_0 e11_1 e11_2 e11_3 e12 e13 e14 e15 e16 e17 e18 e19 e20;exact ⟨⟨n0, b1, b2, n3, s4.data.toList, s5.data.toList, n6, s7.data.toList, b8, n9, b10, wl, b12, b13, s14.data.toList, s15.data.toList, b16, n17, l18, l19, l20⟩, ⟨⟨a18, n18, c18⟩, ⟨a19, n19, c19⟩, ⟨a20, n20, c20⟩⟩, by simp [Pk.cells], ⟨hl18, hl19, hl20⟩⟩
theorem tn_of {w : World} {base : Nat} {held : Bool} {fuel : Nat} {cs : List Value} {x : DataW H × List MemPlace} (h : DataW.trod enc Tryz.prog w base (fun _ => true) held fuel 55 cs = some x) : ∃ y : TnC, cs = y.cells /\ y.t.In w y.h y.hp := by
 obtain ⟨xs, k, _, _, hlen, hxl, hf⟩ := DataW.trod_struct Tryz.underlying55 h
 have c7 : Tryz.prog.cellsOf 55 = 30 := by kernel_rfl
 rw [c7] at hlen
 have i0 : Tryz.prog.cellsOf 44 = 1 := by kernel_rfl
 have i1 : Tryz.prog.cellsOf 2 = 1 := by kernel_rfl
 have i2 : Tryz.prog.cellsOf 52 = 24 := by kernel_rfl
 have i3 : Tryz.prog.cellsOf 9 = 1 := by kernel_rfl
 have i4 : Tryz.prog.cellsOf 53 = 1 := by kernel_rfl
 have i5 : Tryz.prog.cellsOf 3 = 1 := by kernel_rfl
 have i6 : Tryz.prog.cellsOf 49 = 1 := by kernel_rfl
 match cs, hlen with
 | [v0, v1, v2, v3, v4, v5, v6, v7, v8, v9, v10, v11, v12, v13, v14, v15, v16, v17, v18, v19, v20, v21, v22, v23, v24, v25, v26, v27, v28, v29], _ =>
  have g0 : DataW.trod enc Tryz.prog w base (fun _ => true) held k 44 (([v0, v1, v2, v3, v4, v5, v6, v7, v8, v9, v10, v11, v12, v13, v14, v15, v16, v17, v18, v19, v20, v21, v22, v23, v24, v25, v26, v27, v28, v29].drop 0).take (Tryz.prog.cellsOf 44)) = xs[0]? := hf 0 _ rfl
  have g1 : DataW.trod enc Tryz.prog w base (fun _ => true) held k 2 (([v0, v1, v2, v3, v4, v5, v6, v7, v8, v9, v10, v11, v12, v13, v14, v15, v16, v17, v18, v19, v20, v21, v22, v23, v24, v25, v26, v27, v28, v29].drop 1).take (Tryz.prog.cellsOf 2)) = xs[1]? := hf 1 _ rfl
  have g2 : DataW.trod enc Tryz.prog w base (fun _ => true) held k 52 (([v0, v1, v2, v3, v4, v5, v6, v7, v8, v9, v10, v11, v12, v13, v14, v15, v16, v17, v18, v19, v20, v21, v22, v23, v24, v25, v26, v27, v28, v29].drop 2).take (Tryz.prog.cellsOf 52)) = xs[2]? := hf 2 _ rfl
  have g3 : DataW.trod enc Tryz.prog w base (fun _ => true) held k 9 (([v0, v1, v2, v3, v4, v5, v6, v7, v8, v9, v10, v11, v12, v13, v14, v15, v16, v17, v18, v19, v20, v21, v22, v23, v24, v25, v26, v27, v28, v29].drop 26).take (Tryz.prog.cellsOf 9)) = xs[3]? := hf 3 _ rfl
  have g4 : DataW.trod enc Tryz.prog w base (fun _ => true) held k 53 (([v0, v1, v2, v3, v4, v5, v6, v7, v8, v9, v10, v11, v12, v13, v14, v15, v16, v17, v18, v19, v20, v21, v22, v23, v24, v25, v26, v27, v28, v29].drop 27).take (Tryz.prog.cellsOf 53)) = xs[4]? := hf 4 _ rfl
  have g5 : DataW.trod enc Tryz.prog w base (fun _ => true) held k 3 (([v0, v1, v2, v3, v4, v5, v6, v7, v8, v9, v10, v11, v12, v13, v14, v15, v16, v17, v18, v19, v20, v21, v22, v23, v24, v25, v26, v27, v28, v29].drop 28).take (Tryz.prog.cellsOf 3)) = xs[5]? := hf 5 _ rfl
  have g6 : DataW.trod enc Tryz.prog w base (fun _ => true) held k 49 (([v0, v1, v2, v3, v4, v5, v6, v7, v8, v9, v10, v11, v12, v13, v14, v15, v16, v17, v18, v19, v20, v21, v22, v23, v24, v25, v26, v27, v28, v29].drop 29).take (Tryz.prog.cellsOf 49)) = xs[6]? := hf 6 _ rfl
  rw [i0] at g0
  rw [i1] at g1
  rw [i2] at g2
  rw [i3] at g3
  rw [i4] at g4
  rw [i5] at g5
  rw [i6] at g6
  have hxn : xs.length = 7 := hxl
  rw [List.getElem?_eq_getElem (by omega)] at g0 g1 g2 g3 g4 g5 g6
  obtain ⟨n0, e0, _⟩ := DataW.trod_int Tryz.underlying44 g0
  obtain ⟨n1, e1, _⟩ := DataW.trod_int Tryz.underlying2 g1
  obtain ⟨y, h3, e2, hy⟩ := pk_of g2
  obtain ⟨s3, e3, _⟩ := DataW.trod_string Tryz.underlying9 g3
  obtain ⟨n4, e4, _⟩ := DataW.trod_int Tryz.underlying53 g4
  obtain ⟨n5, e5, _⟩ := DataW.trod_int Tryz.underlying3 g5
  obtain ⟨a6, n6, c6, l6, e6, hl6, hq6⟩ := ls_of iCl (size := 1) Tryz.underlying49 (e := 3) (by kernel_rfl) (by decide) (fun _ => True) (fun h => int_of h) g6
  simp only [List.drop_zero, List.drop_succ_cons, List.take_succ_cons, List.take_zero, List.cons.injEq, and_true, Pk.cells] at e0 e1 e2 e3 e4 e5 e6
  obtain ⟨e2_0, e2_1, e2_2, e2_3, e2_4, e2_5, e2_6, e2_7, e2_8, e2_9, e2_10, e2_11, e2_12, e2_13, e2_14, e2_15, e2_16, e2_17, e2_18, e2_19, e2_20, e2_21, e2_22, e2_23⟩ := e2
  subst e0 e1 e2_0 e2_1 e2_2 e2_3 e2_4 e2_5 e2_6 e2_7 e2_8 e2_9 e2_10 e2_11 e2_12 e2_13 e2_14 e2_15 e2_16 e2_17 e2_18 e2_19 e2_20 e2_21 e2_22 e2_23 e3 e4 e5 e6;exact ⟨⟨⟨n0, n1, y, s3.data.toList, n4, n5, l6⟩, h3, ⟨a6, n6, c6⟩⟩, by simp [TnC.cells, Tn.cells], ⟨hy, hl6⟩⟩
theorem su_of {w : World} {base : Nat} {held : Bool} {fuel : Nat} {cs : List Value} {x : DataW H × List MemPlace} (h : DataW.trod enc Tryz.prog w base (fun _ => true) held fuel 25 cs = some x) : ∃ a b c d : Int, cs = [.int .i64 a, .int .i64 b, .int .i64 c, .int .i64 d] := by
 obtain ⟨xs, k, _, _, hlen, hxl, hf⟩ := DataW.trod_struct Tryz.underlying25 h
 have c7 : Tryz.prog.cellsOf 25 = 4 := by kernel_rfl
 rw [c7] at hlen
 have i0 : Tryz.prog.cellsOf 3 = 1 := by kernel_rfl
 match cs, hlen with
 | [v0, v1, v2, v3], _ =>
  have g0 : DataW.trod enc Tryz.prog w base (fun _ => true) held k 3 (([v0, v1, v2, v3].drop 0).take (Tryz.prog.cellsOf 3)) = xs[0]? := hf 0 _ rfl
  have g1 : DataW.trod enc Tryz.prog w base (fun _ => true) held k 3 (([v0, v1, v2, v3].drop 1).take (Tryz.prog.cellsOf 3)) = xs[1]? := hf 1 _ rfl
  have g2 : DataW.trod enc Tryz.prog w base (fun _ => true) held k 3 (([v0, v1, v2, v3].drop 2).take (Tryz.prog.cellsOf 3)) = xs[2]? := hf 2 _ rfl
  have g3 : DataW.trod enc Tryz.prog w base (fun _ => true) held k 3 (([v0, v1, v2, v3].drop 3).take (Tryz.prog.cellsOf 3)) = xs[3]? := hf 3 _ rfl
  rw [i0] at g0 g1 g2 g3
  have hxn : xs.length = 4 := hxl
  rw [List.getElem?_eq_getElem (by omega)] at g0 g1 g2 g3
  obtain ⟨n0, e0, _⟩ := DataW.trod_int Tryz.underlying3 g0
  obtain ⟨n1, e1, _⟩ := DataW.trod_int Tryz.underlying3 g1
  obtain ⟨n2, e2, _⟩ := DataW.trod_int Tryz.underlying3 g2
  obtain ⟨n3, e3, _⟩ := DataW.trod_int Tryz.underlying3 g3
  simp only [List.drop_zero, List.drop_succ_cons, List.take_succ_cons, List.take_zero, List.cons.injEq, and_true] at e0 e1 e2 e3
  subst e0 e1 e2 e3;exact ⟨n0, n1, n2, n3, rfl⟩
theorem cf_of {w : World} {base : Nat} {held : Bool} {fuel : Nat} {cs : List Value} {x : DataW H × List MemPlace} (h : DataW.trod enc Tryz.prog w base (fun _ => true) held fuel 27 cs = some x) : ∃ y : CfV, cs = y.cl := by
 obtain ⟨xs, k, _, _, hlen, hxl, hf⟩ := DataW.trod_struct Tryz.underlying27 h
 have c7 : Tryz.prog.cellsOf 27 = 7 := by kernel_rfl
 rw [c7] at hlen
 have i0 : Tryz.prog.cellsOf 25 = 4 := by kernel_rfl
 have i1 : Tryz.prog.cellsOf 3 = 1 := by kernel_rfl
 have i2 : Tryz.prog.cellsOf 9 = 1 := by kernel_rfl
 match cs, hlen with
 | [v0, v1, v2, v3, v4, v5, v6], _ =>
  have g0 : DataW.trod enc Tryz.prog w base (fun _ => true) held k 25 (([v0, v1, v2, v3, v4, v5, v6].drop 0).take (Tryz.prog.cellsOf 25)) = xs[0]? := hf 0 _ rfl
  have g1 : DataW.trod enc Tryz.prog w base (fun _ => true) held k 3 (([v0, v1, v2, v3, v4, v5, v6].drop 4).take (Tryz.prog.cellsOf 3)) = xs[1]? := hf 1 _ rfl
  have g2 : DataW.trod enc Tryz.prog w base (fun _ => true) held k 3 (([v0, v1, v2, v3, v4, v5, v6].drop 5).take (Tryz.prog.cellsOf 3)) = xs[2]? := hf 2 _ rfl
  have g3 : DataW.trod enc Tryz.prog w base (fun _ => true) held k 9 (([v0, v1, v2, v3, v4, v5, v6].drop 6).take (Tryz.prog.cellsOf 9)) = xs[3]? := hf 3 _ rfl
  rw [i0] at g0
  rw [i1] at g1 g2
  rw [i2] at g3
  have hxn : xs.length = 4 := hxl
  rw [List.getElem?_eq_getElem (by omega)] at g0 g1 g2 g3
  obtain ⟨sa, sb, sc, sd, e0⟩ := su_of g0
  obtain ⟨n1, e1, _⟩ := DataW.trod_int Tryz.underlying3 g1
  obtain ⟨n2, e2, _⟩ := DataW.trod_int Tryz.underlying3 g2
  obtain ⟨s3, e3, _⟩ := DataW.trod_string Tryz.underlying9 g3
  simp only [List.drop_zero, List.drop_succ_cons, List.take_succ_cons, List.take_zero, List.cons.injEq, and_true] at e0 e1 e2 e3
  obtain ⟨e0_0, e0_1, e0_2, e0_3⟩ := e0
  subst e0_0 e0_1 e0_2 e0_3 e1 e2 e3;exact ⟨⟨sa, sb, sc, sd, n1, n2, s3.data.toList⟩, by simp [CfV.cl]⟩
theorem sc_of {w : World} {base : Nat} {held : Bool} {fuel : Nat} {cs : List Value} {x : DataW H × List MemPlace} (h : DataW.trod enc Tryz.prog w base (fun _ => true) held fuel 30 cs = some x) : ∃ y : ScC, cs = y.cells /\ y.In w := by
 obtain ⟨xs, k, _, _, hlen, hxl, hf⟩ := DataW.trod_struct Tryz.underlying30 h
 have c7 : Tryz.prog.cellsOf 30 = 9 := by kernel_rfl
 rw [c7] at hlen
 have i0 : Tryz.prog.cellsOf 27 = 7 := by kernel_rfl
 have i1 : Tryz.prog.cellsOf 3 = 1 := by kernel_rfl
 have i2 : Tryz.prog.cellsOf 28 = 1 := by kernel_rfl
 match cs, hlen with
 | [v0, v1, v2, v3, v4, v5, v6, v7, v8], _ =>
  have g0 : DataW.trod enc Tryz.prog w base (fun _ => true) held k 27 (([v0, v1, v2, v3, v4, v5, v6, v7, v8].drop 0).take (Tryz.prog.cellsOf 27)) = xs[0]? := hf 0 _ rfl
  have g1 : DataW.trod enc Tryz.prog w base (fun _ => true) held k 3 (([v0, v1, v2, v3, v4, v5, v6, v7, v8].drop 7).take (Tryz.prog.cellsOf 3)) = xs[1]? := hf 1 _ rfl
  have g2 : DataW.trod enc Tryz.prog w base (fun _ => true) held k 28 (([v0, v1, v2, v3, v4, v5, v6, v7, v8].drop 8).take (Tryz.prog.cellsOf 28)) = xs[2]? := hf 2 _ rfl
  rw [i0] at g0
  rw [i1] at g1
  rw [i2] at g2
  have hxn : xs.length = 3 := hxl
  rw [List.getElem?_eq_getElem (by omega)] at g0 g1 g2
  obtain ⟨cf, e0⟩ := cf_of g0
  obtain ⟨n1, e1, _⟩ := DataW.trod_int Tryz.underlying3 g1
  obtain ⟨a2, n2, c2, l2, e2, hl2, hq2⟩ := ls_of TnC.cells (size := 30) Tryz.underlying28 (e := 55) (by kernel_rfl) (by decide) (fun y => y.t.In w y.h y.hp) (fun h => tn_of h) g2
  simp only [List.drop_zero, List.drop_succ_cons, List.take_succ_cons, List.take_zero, List.cons.injEq, and_true, CfV.cl] at e0 e1 e2
  obtain ⟨e0_0, e0_1, e0_2, e0_3, e0_4, e0_5, e0_6⟩ := e0
  subst e0_0 e0_1 e0_2 e0_3 e0_4 e0_5 e0_6 e1 e2;exact ⟨⟨cf, n1, ⟨a2, n2, c2⟩, l2⟩, by simp [ScC.cells], ⟨hl2, hq2⟩⟩
theorem script_of {w : World} {held : Bool} {v : Value} {x : DataW H × List MemPlace} (h : ∃ fuel, DataW.trod enc Tryz.prog w 0 (fun _ => true) held fuel 30 v.cells.toList = some x) : ∃ y : ScC, v = .agg y.cells.toArray /\ y.In w := by
 obtain ⟨fuel, hf⟩ := h
 obtain ⟨y, hy, hin⟩ := sc_of hf
 refine ⟨y, ?_, hin⟩
 cases v <;> simp [Value.cells, ScC.cells] at hy
 case agg cs =>
  rw [<- Array.toArray_toList (xs := cs), hy]
  rfl
end
end Go.Proofs.YtkghejaimhoboaaGreatDoor
