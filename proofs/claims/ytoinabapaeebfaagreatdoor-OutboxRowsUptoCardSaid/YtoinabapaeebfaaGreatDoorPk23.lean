/- The walk of known. · The walk of OutboxRows. · From what a row's frame knows of calls to ActsAt. -/
import Derived.Test.YtoinabapaeebfaaGreatDoorPk19
import Derived.Test.YtoinabapaeebfaaGreatDoorPk15
import Derived.Test.YtoinabapaeebfaaGreatDoorPk20
import Derived.Test.YtoinabapaeebfaaGreatDoorPk21
import Derived.Test.YtoinabapaeebfaaGreatDoorPk22
import Derived.Deep.Cut
import Derived.Deep.QuietTactic
import Derived.BigQuiet
import Derived.ProofKit
import Derived.OpenShut
import Derived.Deep.Slices
set_option linter.unusedSimpArgs false
set_option linter.unusedVariables false
namespace Go.Proofs.YtoinabapaeebfaaGreatDoor
open Go.RowKit Go.Shelf

def kS0 : OS := ⟨[99], 1, 5, 0, 1, []⟩
def kS1 : OS := kS0.put (kS0.row [97] [120] 1 false)
def kS2 : OS := kS1.put (kS1.row [97] [121] 2 false)
def kX3 : SS := kS2.start.all.fin kS2.seq kS2.id
def kX4 : SS := (kX3.s.start.ack 1).all.fin kX3.s.seq kX3.s.id
def kX5 : SS := (kX4.s.start.rec' 2).all.fin kX4.s.seq kX4.s.id
def kX6 : SS := (kX5.s.start.comp 2).all.fin kX5.s.seq kX5.s.id
theorem kM0 : sessMay (sessV [99] 0 1) = true := by kernel_rfl
theorem kM1 : putMay (kS0.row [97] [120] 1 false) = true := by kernel_rfl
theorem kM2 : putMay (kS1.row [97] [121] 2 false) = true := by kernel_rfl
theorem kP3 : kX3.ps = [⟨3, false, false, 1, [97], [120], 1⟩] := by kernel_rfl
theorem kP4 : kX4.ps = [⟨3, false, false, 2, [97], [121], 2⟩] := by kernel_rfl
theorem kP5 : kX5.ps = [pubrel 2] := by kernel_rfl
theorem kP6 : kX6.s.l = [] := by kernel_rfl


/-- A block that no outbox writes. -/
structure Kept (w : World) (F : List Nat) (b : Nat) (cs : Array Value) (T : TypeId) : Prop where
  blk : Blk w b cs T
  out : b ∉ F
theorem Kept.step {w w' : World} {F F' : List Nat} {b : Nat} {cs : Array Value} {T : TypeId} (h : Kept w F b cs T) (s : Stp F F' w w') : Kept w' F' b cs T := ⟨h.blk.wrote s.wrote h.out, s.not h.out h.blk.lt⟩
theorem Kept.alloc {w : World} {F : List Nat} {b : Nat} {cs : Array Value} {T : TypeId} (h : Kept w F b cs T) (o : Obj) : Kept (w.alloc o) F b cs T := ⟨h.blk.alloc o, h.out⟩
theorem Kept.box {w : World} {B : Nat} {L : Lay} {s : OS} {ps : List PackV} {cs : List ChangeV} (h : OB w B L s ps cs) (c : Array Value) (T : TypeId) : Kept (w.alloc (.cells c T)) L.foot w.heap.size c T := ⟨Blk.new w c T, fun hx => by have := h.lt _ hx; omega⟩
theorem DidAt.arr {w w' : World} {L L' : Lay} {s' : OS} {vp vc : Value} {cs : List ChangeV} {x : PackV} (d : DidAt w w' L L' s' vp vc [x] cs) : ∃ (g cap : Nat) (cur : Array Value), vp = .slice (some ⟨g, 0, none⟩) 1 cap ∧ Kept w' L'.foot g cur 81 ∧ (∀ (j : Nat) (v : Value), x.cells[j]? = some v → cur[j]? = some v) := by
  have hp := d.packs
  have hf := foot_nil_not d.ob d.nil.1 d.nil.2 hp (.inl rfl)
  obtain ⟨hl, ⟨rfl, h0⟩ | ⟨g, cap, cur, rfl, _, hg, _, _, _, ht⟩⟩ := hp
  · simp at h0
  · refine ⟨g, cap, cur, rfl, ⟨hg, fun hx => hf g hx (by simp [YtoinabapaeebfaaGreatDoor.blk, Value.ownBlock])⟩, fun j v hj => ?_⟩
    have hlt := (List.getElem?_eq_some_iff.1 hj).1
    have h24 : x.cells.length = 24 := rfl
    have e : ([x] : List PackV).flatMap PackV.cells = x.cells := by simp
    rw [e] at ht
    rw [← ht, List.getElem?_take_of_lt (by simp; omega)] at hj
    simpa using hj
theorem asc (c : UInt8) (h : c.toNat < 128) : AnyOK [c] := anyOK_ascii [c] (by simp) (fun j b hb => by
  cases j with
  | zero => simp at hb; subst hb; exact h
  | succ j => simp at hb)

set_option maxRecDepth 100000 in
set_option maxHeartbeats 4000000 in
theorem known_holds (w : World) (hT : TzAt w) : Calls Tryz.prog 9 #[] w fun e w' => e = .returned (.bool true) ∧ Below w.heap.size w w' := by
  have CN := hid (out_New 1 5 [99] w hT (by decide) (by decide) (by decide) kM0)
  go_enter Tryz.func9, Tryz.ntmps9
  go_wp2_with fail
  refine CN.out.mono ?_
  rintro e w0 ⟨L0, rfl, hO0, hn0, hS0⟩
  have hO0 := hid hO0
  go_wp2_with fail
  refine (out_Put hO0.out hn0 [97] [120] 1 false (by decide) (asc 97 (by decide)) kM1 (by decide) (by decide)).mono ?_
  rintro e w1 ⟨vp1, vc1, L1, rfl, d1⟩
  obtain ⟨ap1, cp1, rfl⟩ := own_slice d1.packs
  obtain ⟨ac1, cc1, rfl⟩ := own_slice d1.chgs
  have hp1 := d1.p
  have D1 := hid d1
  clear d1
  rw [← hp1]
  clear hp1
  have N1 := D1.out.nil
  go_wp2_with fail
  have A1 := hid (Kept.box D1.out.ob #[.slice ap1 0 cp1, .slice ac1 2 cc1] 53)
  have O1 : Hid (OB _ _ L1 kS1 [] []) := hid (D1.out.ob.alloc (.cells #[.slice ap1 0 cp1, .slice ac1 2 cc1] 53))
  refine (out_Put O1.out N1 [97] [121] 2 false (by decide) (asc 97 (by decide)) kM2 (by decide) (by decide)).mono ?_
  rintro e w2 ⟨vp2, vc2, L2, rfl, d2⟩
  obtain ⟨ap2, cp2, rfl⟩ := own_slice d2.packs
  obtain ⟨ac2, cc2, rfl⟩ := own_slice d2.chgs
  have hp2 := d2.p
  have D2 : Hid (DidAt _ w2 L1 L2 kS2 _ _ _ _) := hid d2
  clear d2
  rw [← hp2]
  clear hp2 O1
  have A2 := hid (A1.out.step D2.out.stp)
  have N2 := D2.out.nil
  go_wp2_with fail
  have O2 : Hid (OB _ _ L2 kS2 [] []) := hid (D2.out.ob.alloc (.cells #[.slice ap2 0 cp2, .slice ac2 2 cc2] 53))
  have A2' := hid (A2.out.alloc (.cells #[.slice ap2 0 cp2, .slice ac2 2 cc2] 53))
  clear A1 A2
  refine (out_Send O2.out N2).mono ?_
  rintro e w3 ⟨vp3, vc3, L3, rfl, d3⟩
  have D3 : Hid (DidAt _ w3 L2 L3 kX3.s vp3 vc3 kX3.ps kX3.cs) := hid d3
  clear d3
  rw [kP3] at D3
  obtain ⟨g3, cp3, cur3, rfl, B3, h3⟩ := D3.out.arr
  have H3 := hid h3
  obtain ⟨ac3, cc3, rfl⟩ := own_slice D3.out.chgs
  have hp3 := D3.out.p
  rw [← hp3]
  clear hp3 O2 h3
  have A3 := hid (A2'.out.step D3.out.stp)
  have N3 := D3.out.nil
  generalize kX3.cs.length = n3 at *
  go_wp2_with fail
  have O3 : Hid (OB _ _ L3 kX3.s [] []) := hid (D3.out.ob.alloc (.cells #[.slice (some ⟨g3, 0, none⟩) 1 cp3, .slice ac3 n3 cc3] 53))
  have A3' := hid (A3.out.alloc (.cells #[.slice (some ⟨g3, 0, none⟩) 1 cp3, .slice ac3 n3 cc3] 53))
  have B3' := hid (B3.alloc (.cells #[.slice (some ⟨g3, 0, none⟩) 1 cp3, .slice ac3 n3 cc3] 53))
  have C3' := hid (Kept.box D3.out.ob #[.slice (some ⟨g3, 0, none⟩) 1 cp3, .slice ac3 n3 cc3] 53)
  clear A2' A3 B3
  refine (out_Hear4 O3.out N3 1 (by decide)).mono ?_
  rintro e w4 ⟨vp4, vc4, L4, rfl, d4⟩
  have D4 : Hid (DidAt _ w4 L3 L4 kX4.s vp4 vc4 kX4.ps kX4.cs) := hid d4
  clear d4
  rw [kP4] at D4
  obtain ⟨g4, cp4, cur4, rfl, B4, h4⟩ := D4.out.arr
  have H4 := hid h4
  clear h4
  obtain ⟨ac4, cc4, rfl⟩ := own_slice D4.out.chgs
  have hp4 := D4.out.p
  rw [← hp4]
  clear hp4 O3
  have A3s4 := hid (A3'.out.step D4.out.stp)
  have B3s4 := hid (B3'.out.step D4.out.stp)
  have C3s4 := hid (C3'.out.step D4.out.stp)
  have N4 := D4.out.nil
  generalize kX4.cs.length = n4 at *
  go_wp2_with fail
  have O4 : Hid (OB _ _ L4 kX4.s [] []) := hid (D4.out.ob.alloc (.cells #[.slice (some ⟨g4, 0, none⟩) 1 cp4, .slice ac4 n4 cc4] 53))
  have A3t4 := hid (A3s4.out.alloc (.cells #[.slice (some ⟨g4, 0, none⟩) 1 cp4, .slice ac4 n4 cc4] 53))
  have B3t4 := hid (B3s4.out.alloc (.cells #[.slice (some ⟨g4, 0, none⟩) 1 cp4, .slice ac4 n4 cc4] 53))
  have C3t4 := hid (C3s4.out.alloc (.cells #[.slice (some ⟨g4, 0, none⟩) 1 cp4, .slice ac4 n4 cc4] 53))
  have B4' := hid (B4.alloc (.cells #[.slice (some ⟨g4, 0, none⟩) 1 cp4, .slice ac4 n4 cc4] 53))
  have C4' := hid (Kept.box D4.out.ob #[.slice (some ⟨g4, 0, none⟩) 1 cp4, .slice ac4 n4 cc4] 53)
  clear A3' B3' C3' A3s4 B3s4 C3s4 B4
  refine (out_Hear5 O4.out N4 2 (by decide)).mono ?_
  rintro e w5 ⟨vp5, vc5, L5, rfl, d5⟩
  have D5 : Hid (DidAt _ w5 L4 L5 kX5.s vp5 vc5 kX5.ps kX5.cs) := hid d5
  clear d5
  rw [kP5] at D5
  obtain ⟨g5, cp5, cur5, rfl, B5, h5⟩ := D5.out.arr
  have H5 := hid h5
  clear h5
  obtain ⟨ac5, cc5, rfl⟩ := own_slice D5.out.chgs
  have hp5 := D5.out.p
  rw [← hp5]
  clear hp5 O4
  have A3s5 := hid (A3t4.out.step D5.out.stp)
  have B3s5 := hid (B3t4.out.step D5.out.stp)
  have C3s5 := hid (C3t4.out.step D5.out.stp)
  have B4s5 := hid (B4'.out.step D5.out.stp)
  have C4s5 := hid (C4'.out.step D5.out.stp)
  have N5 := D5.out.nil
  generalize kX5.cs.length = n5 at *
  go_wp2_with fail
  have O5 : Hid (OB _ _ L5 kX5.s [] []) := hid (D5.out.ob.alloc (.cells #[.slice (some ⟨g5, 0, none⟩) 1 cp5, .slice ac5 n5 cc5] 53))
  have A3t5 := hid (A3s5.out.alloc (.cells #[.slice (some ⟨g5, 0, none⟩) 1 cp5, .slice ac5 n5 cc5] 53))
  have B3t5 := hid (B3s5.out.alloc (.cells #[.slice (some ⟨g5, 0, none⟩) 1 cp5, .slice ac5 n5 cc5] 53))
  have C3t5 := hid (C3s5.out.alloc (.cells #[.slice (some ⟨g5, 0, none⟩) 1 cp5, .slice ac5 n5 cc5] 53))
  have B4t5 := hid (B4s5.out.alloc (.cells #[.slice (some ⟨g5, 0, none⟩) 1 cp5, .slice ac5 n5 cc5] 53))
  have C4t5 := hid (C4s5.out.alloc (.cells #[.slice (some ⟨g5, 0, none⟩) 1 cp5, .slice ac5 n5 cc5] 53))
  have B5' := hid (B5.alloc (.cells #[.slice (some ⟨g5, 0, none⟩) 1 cp5, .slice ac5 n5 cc5] 53))
  have C5' := hid (Kept.box D5.out.ob #[.slice (some ⟨g5, 0, none⟩) 1 cp5, .slice ac5 n5 cc5] 53)
  clear A3t4 B3t4 C3t4 B4' C4' A3s5 B3s5 C3s5 B4s5 C4s5 B5
  refine (out_Hear7 O5.out N5 2 (by decide)).mono ?_
  rintro e w6 ⟨vp6, vc6, L6, rfl, d6⟩
  have D6 : Hid (DidAt _ w6 L5 L6 kX6.s vp6 vc6 kX6.ps kX6.cs) := hid d6
  clear d6
  obtain ⟨ap6, cp6, rfl⟩ := own_slice D6.out.packs
  obtain ⟨ac6, cc6, rfl⟩ := own_slice D6.out.chgs
  have hp6 := D6.out.p
  rw [← hp6]
  clear hp6 O5
  have A3s6 := hid (A3t5.out.step D6.out.stp)
  have B3s6 := hid (B3t5.out.step D6.out.stp)
  have C3s6 := hid (C3t5.out.step D6.out.stp)
  have B4s6 := hid (B4t5.out.step D6.out.stp)
  have C4s6 := hid (C4t5.out.step D6.out.stp)
  have B5s6 := hid (B5'.out.step D6.out.stp)
  have C5s6 := hid (C5'.out.step D6.out.stp)
  have N6 := D6.out.nil
  generalize kX6.cs.length = n6 at *
  generalize kX6.ps.length = m6 at *
  have O6 : Hid (OB _ _ L6 kX6.s [] []) := hid (D6.out.ob.alloc (.cells #[.slice ap6 m6 cp6, .slice ac6 n6 cc6] 53))
  have A3t6 := hid (A3s6.out.alloc (.cells #[.slice ap6 m6 cp6, .slice ac6 n6 cc6] 53))
  have B3t6 := hid (B3s6.out.alloc (.cells #[.slice ap6 m6 cp6, .slice ac6 n6 cc6] 53))
  have C3t6 := hid (C3s6.out.alloc (.cells #[.slice ap6 m6 cp6, .slice ac6 n6 cc6] 53))
  have B4t6 := hid (B4s6.out.alloc (.cells #[.slice ap6 m6 cp6, .slice ac6 n6 cc6] 53))
  have C4t6 := hid (C4s6.out.alloc (.cells #[.slice ap6 m6 cp6, .slice ac6 n6 cc6] 53))
  have B5t6 := hid (B5s6.out.alloc (.cells #[.slice ap6 m6 cp6, .slice ac6 n6 cc6] 53))
  have C5t6 := hid (C5s6.out.alloc (.cells #[.slice ap6 m6 cp6, .slice ac6 n6 cc6] 53))
  clear A3t5 B3t5 C3t5 B4t5 C4t5 B5' C5' A3s6 B3s6 C3s6 B4s6 C4s6 B5s6 C5s6
  have CL := hid (out_Len O6.out)
  rw [kP6] at CL
  have a1 : (w6.alloc (.cells #[.slice ap6 m6 cp6, .slice ac6 n6 cc6] 53)).cell? ⟨w1.heap.size, 1, none⟩ = some (.slice ac1 2 cc1) := A3t6.out.blk.cell 1
  have c30 : (w6.alloc (.cells #[.slice ap6 m6 cp6, .slice ac6 n6 cc6] 53)).cell? ⟨w3.heap.size, 0, none⟩ = some (.slice (some ⟨g3, 0, none⟩) 1 cp3) := C3t6.out.blk.cell 0
  have c40 : (w6.alloc (.cells #[.slice ap6 m6 cp6, .slice ac6 n6 cc6] 53)).cell? ⟨w4.heap.size, 0, none⟩ = some (.slice (some ⟨g4, 0, none⟩) 1 cp4) := C4t6.out.blk.cell 0
  have c50 : (w6.alloc (.cells #[.slice ap6 m6 cp6, .slice ac6 n6 cc6] 53)).cell? ⟨w5.heap.size, 0, none⟩ = some (.slice (some ⟨g5, 0, none⟩) 1 cp5) := C5t6.out.blk.cell 0
  have b35 : (w6.alloc (.cells #[.slice ap6 m6 cp6, .slice ac6 n6 cc6] 53)).cell? ⟨g3, 5, none⟩ = some (.string ⟨#[120]⟩) := (B3t6.out.blk.cell 5).trans (H3.out 5 _ rfl)
  have b36 : (w6.alloc (.cells #[.slice ap6 m6 cp6, .slice ac6 n6 cc6] 53)).cell? ⟨g3, 6, none⟩ = some (.int .i64 1) := (B3t6.out.blk.cell 6).trans (H3.out 6 _ rfl)
  have b45 : (w6.alloc (.cells #[.slice ap6 m6 cp6, .slice ac6 n6 cc6] 53)).cell? ⟨g4, 5, none⟩ = some (.string ⟨#[121]⟩) := (B4t6.out.blk.cell 5).trans (H4.out 5 _ rfl)
  have b46 : (w6.alloc (.cells #[.slice ap6 m6 cp6, .slice ac6 n6 cc6] 53)).cell? ⟨g4, 6, none⟩ = some (.int .i64 2) := (B4t6.out.blk.cell 6).trans (H4.out 6 _ rfl)
  have b50 : (w6.alloc (.cells #[.slice ap6 m6 cp6, .slice ac6 n6 cc6] 53)).cell? ⟨g5, 0, none⟩ = some (.int .i64 6) := (B5t6.out.blk.cell 0).trans (H5.out 0 _ rfl)
  have hst6 := hid (((((((hS0.trans D1.out.stp).trans (Stp.below ((Below.refl _ _).alloc (Nat.le_refl _) _))).trans D2.out.stp).trans (Stp.below ((Below.refl _ _).alloc (Nat.le_refl _) _))).trans D3.out.stp).trans (Stp.below ((Below.refl _ _).alloc (Nat.le_refl _) _))).trans D4.out.stp)
  have hst7 := hid (((((hst6.out.trans (Stp.below ((Below.refl _ _).alloc (Nat.le_refl _) _))).trans D5.out.stp).trans (Stp.below ((Below.refl _ _).alloc (Nat.le_refl _) _))).trans D6.out.stp).trans (Stp.below ((Below.refl _ _).alloc (Nat.le_refl _) (.cells #[.slice ap6 m6 cp6, .slice ac6 n6 cc6] 53))))
  clear A3t6 B3t6 C3t6 B4t6 C4t6 B5t6 C5t6
  go_wp2_with (go_at_call 44; refine CL.out.mono ?_; rintro e w7 ⟨rfl, rfl⟩)

  go_ret
  exact ⟨by simp, hst7.out.wrote.below (Nat.le_refl _) (by simp)⟩
end Go.Proofs.YtoinabapaeebfaaGreatDoor
namespace Go.Proofs.YtoinabapaeebfaaGreatDoor
open Go.RowKit Go.Shelf

/-- Rows in memory, apart from the outbox's blocks. -/
structure RowsIn (W : World) (F : List Nat) (a : Option Addr) (n c : Nat) (R : List RowV) : Prop where
  row : W.ownsRow 0 33 9 (.slice a n c) n (R.flatMap RowV.cl)
  len : R.length = n
  out : ∀ x ∈ blk (.slice a n c), x ∉ F
theorem RowsIn.step {W W' : World} {F F' : List Nat} {a : Option Addr} {n c : Nat} {R : List RowV} (h : RowsIn W F a n c R) (hs : Stp F F' W W') : RowsIn W' F' a n c R :=
  ⟨not_own h.row hs.wrote (fun x hx hb => h.out x hb hx), h.len, fun x hx => hs.not (h.out x hx) (blk_lt h.row hx)⟩
theorem RowsIn.kind {W : World} {F : List Nat} {a : Option Addr} {n c : Nat} {R l : List RowV} {se : RowV} (_ : RowsIn W F a n c R) (hp : R.Perm (se :: l)) (hs : se.kind = 1) (hl : ∀ r ∈ l, r.kind = 3) : ∀ x ∈ R, kindOK x := fun x hx => by
  rcases List.mem_cons.1 (hp.mem_iff.1 hx) with rfl | h
  · exact .inl hs
  · exact .inr (.inr (.inl (hl x h)))
/-- Between the calls ahead: the outbox, and the rows that the changes left. -/
structure RI (x0 x1 : Int) (p : Nat) (wf W : World) (k : Nat) (s : OS) (L : Lay) (R : List RowV) (a : Option Addr) (n c : Nat) : Prop where
  lp : L.p = p
  nil : L.vp = .slice none 0 0 ∧ L.vc = .slice none 0 0
  ob : OB W W.heap.size L s [] []
  stp : Stp [] L.foot wf W
  po : PO x0 x1 [99] s
  seq : s.seq ≤ k
  perm : R.Perm (s.session :: s.l)
  rows : RowsIn W L.foot a n c R
theorem RI.bel {x0 x1 : Int} {p : Nat} {wf W : World} {k : Nat} {s : OS} {L : Lay} {R : List RowV} {a : Option Addr} {n c : Nat} (h : RI x0 x1 p wf W k s L R a n c) : Below wf.heap.size wf W := h.stp.wrote.below (Nat.le_refl _) (by simp)
theorem RI.len {x0 x1 : Int} {p : Nat} {wf W : World} {k : Nat} {s : OS} {L : Lay} {R : List RowV} {a : Option Addr} {n c : Nat} (h : RI x0 x1 p wf W k s L R a n c) : n ≤ 1001 ∧ s.l.length ≤ 1000 := by
  have h1 := h.perm.length_eq
  have h2 := h.rows.len
  have h3 := h.ob.ok.room
  simp at h1
  omega
/-- The rows but the session's; the session's. -/
def outsR (l : List RowV) : List RowV := l.filter fun r => decide (r.kind ≠ 1)
def sessR (l : List RowV) : RowV := l.foldl (fun s r => if r.kind = 1 then r else s) ⟨0, [], 0, 0, [], [], 0, false, 0⟩
theorem outsR_perm {R l : List RowV} {se : RowV} (h : R.Perm (se :: l)) (hs : se.kind = 1) (hl : ∀ r ∈ l, r.kind = 3) : (outsR R).Perm l := by
  have h1 := h.filter fun r => decide (r.kind ≠ 1)
  have h2 : (se :: l).filter (fun r => decide (r.kind ≠ 1)) = l := by
    rw [List.filter_cons_of_neg (by simp [hs]), List.filter_eq_self]
    intro r hr
    simp [hl r hr]
  rw [h2] at h1
  exact h1
theorem sessR_fold (R : List RowV) (S : RowV) (hall : ∀ r ∈ R, r.kind = 1 → r = S) (hS : S.kind = 1) : ∀ s0, (s0 = S ∨ S ∈ R) → R.foldl (fun s r => if r.kind = 1 then r else s) s0 = S := by
  induction R with
  | nil =>
    intro s0 h
    rcases h with h | h
    · exact h
    · cases h
  | cons x R ih =>
    intro s0 h
    rw [List.foldl_cons]
    refine ih (fun r hr => hall r (List.mem_cons_of_mem _ hr)) _ ?_
    by_cases hx : x.kind = 1
    · rw [if_pos hx]; exact .inl (hall x (List.mem_cons_self ..) hx)
    · rw [if_neg hx]
      rcases h with h | h
      · exact .inl h
      · rcases List.mem_cons.1 h with h | h
        · exact absurd (h ▸ hS) hx
        · exact .inr h
theorem sessR_perm {R l : List RowV} {se : RowV} (h : R.Perm (se :: l)) (hs : se.kind = 1) (hl : ∀ r ∈ l, r.kind = 3) : sessR R = se := by
  refine sessR_fold R se (fun r hr h1 => ?_) hs _ (.inr (h.mem_iff.2 (List.mem_cons_self ..)))
  rcases List.mem_cons.1 (h.mem_iff.1 hr) with he | hm
  · exact he
  · have := hl r hm; omega
theorem sessR_snoc (R : List RowV) (r : RowV) : sessR (R ++ [r]) = if r.kind = 1 then r else sessR R := by unfold sessR; rw [List.foldl_append]; rfl
theorem outsR_snoc (R : List RowV) (r : RowV) : outsR (R ++ [r]) = if r.kind = 1 then outsR R else outsR R ++ [r] := by
  unfold outsR
  rw [List.filter_append]
  by_cases h : r.kind = 1 <;> simp [h]
/-- Between the rounds that part the rows. -/
structure PA (w0 W : World) (R : List RowV) (j : Nat) (sv : RowV) (a : Option Addr) (n c : Nat) : Prop where
  bel : Below w0.heap.size w0 W
  sess : Blk W w0.heap.size sv.vals 33
  is : sv = sessR (R.take j)
  row : W.ownsRow (w0.heap.size + 1) 33 9 (.slice a n c) n ((outsR (R.take j)).flatMap RowV.cl)
  len : (outsR (R.take j)).length = n
theorem PO.good {x0 x1 : Int} {c : List UInt8} {s : OS} (h : PO x0 x1 c s) (hok : s.OK) {l : List RowV} (hp : l.Perm s.l) : GoodRows { s with l := l } := by
  refine ⟨fun r hr => ?_, ⟨hok.win, ⟨hok.room.1, by have := hok.room.2; have := hp.length_eq; show (l.length : Int) ≤ s.room; omega⟩, hok.seq, hok.id, hok.cl, fun r hr => hok.ids r (hp.mem_iff.1 hr), (idsOf_perm hp).nodup_iff.2 hok.nodup, by have := (idsOf_perm hp).length_eq; have := hok.under; show ((idsOf l).length : Int) ≤ s.window; omega⟩, (hp.map RowV.seq).nodup_iff.2 h.wn.rg.nodup⟩
  have hm := hp.mem_iff.1 hr
  obtain ⟨g1, g2, g3, g4, g5⟩ := h.row r hm
  exact ⟨g1, g2, g3, g4.trans h.cl.symm, h.wn.rg.lt r hm, g5⟩
/-- Of: of the parted rows. -/
theorem out_Of_parted {x0 x1 : Int} {s : OS} (h : PO x0 x1 [99] s) (hok : s.OK) (hx1 : 1 ≤ x1) (hq : s.seq ≤ 4611686018427387904) {l : List RowV} (hp : l.Perm s.l) (base : Nat) (va : Option Addr) (vc n : Nat) (w : World) (hT : TzAt w) (hn : l.length = n) (hv : w.ownsRow base 33 9 (.slice va n vc) n (l.flatMap RowV.cl)) :
    Calls Tryz.prog 13 #[.int .i64 x0, .int .i64 x1, .agg s.session.cl.toArray, .slice va n vc] w fun e w' => ∃ L, e = .returned (.tuple #[.pointer (some ⟨L.p, 0, none⟩), .int .i64 0]) ∧
      OB w' w'.heap.size L s [] [] ∧ (L.vp = .slice none 0 0 ∧ L.vc = .slice none 0 0) ∧ Stp [] L.foot w w' := by
  have hG := h.good hok hp
  have hw : s.window = x0 := h.wn.win
  have hr : s.room = x1 := h.wn.room
  have hm : sessMay (sessV s.client s.seq s.id) = true := by rw [h.cl]; exact sess_may h.may ⟨h.pos, hq⟩ h.id
  have := out_Of_rows { s with l := l } base va vc n w hT hG hn hv (by show 1 ≤ s.room; omega) hq hm
  dsimp only at this
  rw [hw, hr] at this
  refine Calls.mono (show Calls Tryz.prog 13 #[.int .i64 x0, .int .i64 x1, .agg s.session.cl.toArray, .slice va n vc] w _ from this) ?_
  rintro e w' ⟨L, l', he, hp2, hs, ho, hn2, hst⟩
  obtain rfl := sorted_eq l' s.l (hp2.trans hp) hs h.wn.rg.sorted
  exact ⟨L, he, by rw [← hw, ← hr] at ho; exact ho, hn2, hst⟩
/-- Two outboxes that go on side by side, and a copy that stands. -/
structure JI (x0 x1 : Int) (p p2 p3 B3 : Nat) (wf W : World) (K : Int) (s1 s2 sc : OS) (L L2 L3 : Lay) : Prop where
  lp : L.p = p
  lp2 : L2.p = p2
  lp3 : L3.p = p3
  nil : L.vp = .slice none 0 0 ∧ L.vc = .slice none 0 0
  nil2 : L2.vp = .slice none 0 0 ∧ L2.vc = .slice none 0 0
  ob : OB W W.heap.size L s1 [] []
  ob2 : OB W W.heap.size L2 s2 [] []
  ob3 : OB W B3 L3 sc [] []
  d12 : ∀ x ∈ L.foot, x ∉ L2.foot
  d13 : ∀ x ∈ L.foot, x ∉ L3.foot
  d23 : ∀ x ∈ L2.foot, x ∉ L3.foot
  f1 : ∀ x ∈ L.foot, wf.heap.size ≤ x
  f2 : ∀ x ∈ L2.foot, wf.heap.size ≤ x
  bel : Below wf.heap.size wf W
  po : PO x0 x1 [99] s1
  po2 : PO x0 x1 [99] s2
  seq : s1.seq ≤ K
  seq2 : s2.seq ≤ K
section
variable {x0 x1 : Int} {p p2 p3 B3 : Nat} {wf W W1 : World} {K K' : Int} {s1 s2 sc : OS} {L L2 L3 L' : Lay} {y : SS} {a : Option Addr} {n c : Nat}
theorem JI.more (h : JI x0 x1 p p2 p3 B3 wf W K s1 s2 sc L L2 L3) (hb : Below W.heap.size W W1) : JI x0 x1 p p2 p3 B3 wf W1 K s1 s2 sc L L2 L3 :=
  ⟨h.lp, h.lp2, h.lp3, h.nil, h.nil2, ob_rebase2 (h.ob.below hb) h.nil, ob_rebase2 (h.ob2.below hb) h.nil2, h.ob3.below hb, h.d12, h.d13, h.d23, h.f1, h.f2, h.bel.trans (hb.mono h.bel.size), h.po, h.po2, h.seq, h.seq2⟩
theorem JI.one (h : JI x0 x1 p p2 p3 B3 wf W K s1 s2 sc L L2 L3) (D : DoneIs W W1 L L' y a n c) (hp : PO x0 x1 [99] y.s) (hq : y.s.seq ≤ K') (hK : K ≤ K') : JI x0 x1 p p2 p3 B3 wf W1 K' y.s s2 sc L' L2 L3 := by
  have l2 := h.ob2.lt
  have l3 := h.ob3.lt
  have hsz := h.bel.size
  refine ⟨D.p.trans h.lp, h.lp2, h.lp3, D.nil, h.nil2, D.ob, ob_rebase2 (h.ob2.out D.stp.wrote h.d12 h.ob.gg) h.nil2, h.ob3.out D.stp.wrote h.d13 h.ob.gg, fun x hx h2 => ?_, fun x hx h3 => ?_, h.d23, fun x hx => ?_, h.f2, h.bel.trans (D.stp.wrote.below hsz h.f1), hp, h.po2, hq, Int.le_trans h.seq2 hK⟩
  · rcases D.stp.sub x hx with h1 | h1
    · exact h.d12 x h1 h2
    · have := l2 x h2; omega
  · rcases D.stp.sub x hx with h1 | h1
    · exact h.d13 x h1 h3
    · have := l3 x h3; omega
  · rcases D.stp.sub x hx with h1 | h1
    · exact h.f1 x h1
    · omega
theorem JI.two (h : JI x0 x1 p p2 p3 B3 wf W K s1 s2 sc L L2 L3) (D : DoneIs W W1 L2 L' y a n c) (hp : PO x0 x1 [99] y.s) (hq : y.s.seq ≤ K') (hK : K ≤ K') : JI x0 x1 p p2 p3 B3 wf W1 K' s1 y.s sc L L' L3 := by
  have l1 := h.ob.lt
  have l3 := h.ob3.lt
  have hsz := h.bel.size
  refine ⟨h.lp, D.p.trans h.lp2, h.lp3, h.nil, D.nil, ob_rebase2 (h.ob.out D.stp.wrote (fun x hx h1 => h.d12 x h1 hx) h.ob2.gg) h.nil, D.ob, h.ob3.out D.stp.wrote h.d23 h.ob2.gg, fun x hx h2 => ?_, h.d13, fun x hx h3 => ?_, h.f1, fun x hx => ?_, h.bel.trans (D.stp.wrote.below hsz h.f2), h.po, hp, Int.le_trans h.seq hK, hq⟩
  · rcases D.stp.sub x h2 with h1 | h1
    · exact h.d12 x hx h1
    · have := l1 x hx; omega
  · rcases D.stp.sub x hx with h1 | h1
    · exact h.d23 x h1 h3
    · have := l3 x h3; omega
  · rcases D.stp.sub x hx with h1 | h1
    · exact h.f2 x h1
    · omega
end
theorem acts_range {w : World} {a : Option Addr} {n cap : Nat} {xs : List ActV} (h : ActsAt w a n cap xs) {i : Nat} {x : ActV} (hx : xs[i]? = some x) : ∃ g off, a = some ⟨g, off, none⟩ ∧ ∀ W, Below w.heap.size w W → W.rangeAt g (off + i * 7) x.cells.toList := by
  obtain ⟨g, off, ha, hg, hr⟩ := h.at' i x hx
  exact ⟨g, off, ha, fun W hb => range_below hr hg hb⟩
set_option maxRecDepth 100000 in
set_option maxHeartbeats 8000000 in
theorem walk_OutboxRows (x0 x1 : Int) (al bl : Option Addr) (nl cl ml dl : Nat) (xs ys : List ActV) (w : World) (hA : ActsAt w al nl cl xs) (hB : ActsAt w bl ml dl ys) (hT : TzAt w) (hn : nl ≤ 1048576) (hm : ml ≤ 1048576) :
    Calls Tryz.prog 3 #[.agg #[.int .i64 x0, .int .i64 x1], .slice al nl cl, .slice bl ml dl] w fun e w' => e = .returned (.bool true) ∧ Below w.heap.size w w' := by
  have KH := hid known_holds
  have hb1 := hid ((Below.refl w.heap.size w).alloc (Nat.le_refl _) (.cells #[.int .i64 x0, .int .i64 x1] 22))
  have hA1 := hid (hA.below hb1.out)
  have hA := hid hA
  have hB := hid hB
  go_enter Tryz.func3, Tryz.ntmps3
  go_wp2_with (first
    | (at_builtin; refine wpList_plain rfl fun _ hK => ?_; refine wp_append_part _ _ rfl eAct (by decide) w.heap.size (.slice none 0 0) 0 [] rfl (World.ownsRow_nil _ _ _ _) al nl cl (xs.flatMap ActV.cl) rfl (by rw [act_len, hA.out.len]) (hA1.out.src) (act_one _) (by omega) (by omega) hb1.out.size fun v1 w1 r1 g1 n1 => ?_; rw [Nat.zero_add] at r1; obtain ⟨a1, c1, hv1⟩ := own_slice r1; subst hv1; have hx1 := hid ((Blk.new w #[.int .i64 x0, .int .i64 x1] 22).wt (WT.row (World.ownsRow_nil _ 0 43 7) g1) (by decide)); refine hK _ _ ?_; clear hK; have hb2 := hid (hb1.out.grown g1 hb1.out.size (fun j e => by cases e)); have hB2 := hid (hB.out.below hb2.out))
    | (at_builtin; refine wpList_plain rfl fun _ hK => ?_; refine wp_append_part _ _ rfl eAct (by decide) w.heap.size (.slice a1 nl c1) nl _ rfl r1 bl ml dl (ys.flatMap ActV.cl) rfl (by rw [act_len, hB.out.len]) (hB2.out.src) (act_one _) (by omega) (by omega) hb2.out.size fun v2 w2 r2 g2 n2 => ?_; obtain ⟨a2, c2, hv2⟩ := own_slice r2; subst hv2; have hx2 := hid (hx1.out.wt (WT.row r1 g2) (by decide)); refine hK _ _ ?_; clear hK; have hb3 := hid (hb2.out.grown g2 hb2.out.size (fun j e => (r1.lt j e).1)); have hAB := hid (acts_of_own (xs := xs ++ ys) (by simpa using r2) (by have := hA.out.len; have := hB.out.len; simp; omega))))
  have hFew := hid (law_few 40 a2 (nl + ml) c2 (xs ++ ys) w2 hAB.out (by omega))
  refine hFew.out.mono ?_
  rintro e wf ⟨b, rfl, hfb, hbf⟩
  have hbx := hid (hx2.out.below hbf)
  have c0 : wf.cell? ⟨w.heap.size, 0, none⟩ = some (.int .i64 x0) := hbx.out.cell 0
  have c1 : wf.cell? ⟨w.heap.size, 1, none⟩ = some (.int .i64 x1) := hbx.out.cell 1
  have hbf := hid (hb3.out.trans (hbf.mono hb3.out.size))
  have hTf := hid (hT.below hbf.out)
  have hAf := hid (hA.out.below hbf.out)
  have hBf := hid (hB.out.below hbf.out)
  replace hfb := hid hfb
  clear hx1 hx2 hAB r1 r2 g1 g2 n1 n2 hb1 hb2 hb3 hB2 hA1 hFew hA hB hT
  cases b with
  | false =>
    go_wp2_with fail
    refine (KH.out _ hTf.out).mono ?_
    rintro e w8 ⟨rfl, hb8⟩
    go_wp2
    go_ret
    exact ⟨rfl, hbf.out.trans (hb8.mono hbf.out.size)⟩
  | true =>
  by_cases r1 : x0 < 1
  · have d1 : decide (x0 < 1) = true := decide_eq_true r1
    go_wp2_with fail
    refine (KH.out _ hTf.out).mono ?_
    rintro e w8 ⟨rfl, hb8⟩
    go_wp2
    go_ret
    exact ⟨rfl, hbf.out.trans (hb8.mono hbf.out.size)⟩
  have d1 : decide (x0 < 1) = false := decide_eq_false r1
  by_cases r2 : 100 < x0
  · have d2 : decide (100 < x0) = true := decide_eq_true r2
    go_wp2_with fail
    refine (KH.out _ hTf.out).mono ?_
    rintro e w8 ⟨rfl, hb8⟩
    go_wp2
    go_ret
    exact ⟨rfl, hbf.out.trans (hb8.mono hbf.out.size)⟩
  have d2 : decide (100 < x0) = false := decide_eq_false r2
  by_cases r3 : x1 < 1
  · have d3 : decide (x1 < 1) = true := decide_eq_true r3
    go_wp2_with fail
    refine (KH.out _ hTf.out).mono ?_
    rintro e w8 ⟨rfl, hb8⟩
    go_wp2
    go_ret
    exact ⟨rfl, hbf.out.trans (hb8.mono hbf.out.size)⟩
  have d3 : decide (x1 < 1) = false := decide_eq_false r3
  by_cases r4 : 1000 < x1
  · have d4 : decide (1000 < x1) = true := decide_eq_true r4
    go_wp2_with fail
    refine (KH.out _ hTf.out).mono ?_
    rintro e w8 ⟨rfl, hb8⟩
    go_wp2
    go_ret
    exact ⟨rfl, hbf.out.trans (hb8.mono hbf.out.size)⟩
  have d4 : decide (1000 < x1) = false := decide_eq_false r4
  have CN := hid (out_New x0 x1 [99] wf hTf.out ⟨by omega, by omega⟩ ⟨by omega, by omega⟩ (by decide) kM0)
  go_wp2_with fail
  refine CN.out.mono ?_
  rintro e w0 ⟨L0, rfl, hO0, hn0, hS0⟩
  obtain ⟨p, hp⟩ : ∃ p, L0.p = p := ⟨_, rfl⟩
  rw [hp]
  have hst0 : OS.session ⟨[99], x0, x1, 0, 1, []⟩ = sessV [99] 0 1 := rfl
  have hO0 := hid hO0
  have hS0 := hid hS0
  clear CN
  go_wp2_with (refine wpList_plain rfl fun _ hK => wp_slice_one _ rfl eRow (by decide) (by decide) (.agg (RowV.cl (sessV [99] 0 1)).toArray) rfl rfl (hK _ _ ?_))
  have hI0 : Hid (RI x0 x1 p wf (w0.alloc (.cells (RowV.cl (sessV [99] 0 1)).toArray 33)) 0 ⟨[99], x0, x1, 0, 1, []⟩ L0 [sessV [99] 0 1] (some ⟨w0.heap.size, 0, none⟩) 1 1) := hid (by
    have hal := (Below.refl w0.heap.size w0).alloc (Nat.le_refl _) (.cells (RowV.cl (sessV [99] 0 1)).toArray 33)
    have hlt := hO0.out.lt
    refine ⟨hp, hn0, ob_rebase2 (hO0.out.below hal) hn0, hS0.out.trans (Stp.below hal), ⟨⟨Rg.nil _, rfl, rfl⟩, rfl, (by show (1:Int) ≤ 1 ∧ (1:Int) ≤ 65535; decide), (by simp), by kernel_rfl, (by show (0:Int) ≤ 0; decide)⟩, Int.le_refl _, List.Perm.refl _, ⟨?_, rfl, fun x hx hf => ?_⟩⟩
    · exact ⟨rfl, .inr ⟨w0.heap.size, 1, _, rfl, Nat.zero_le _, World.alloc_heap_new _ _, by decide, by decide, rfl, rfl⟩⟩
    · simp [blk, Value.ownBlock] at hx
      have := hlt x hf
      omega)
  clear hn0 hO0 hS0 hp hst0
  go_loopw [9, 10] (fun rv i wr => ∃ (k : Nat) (s : OS) (L : Lay) (R : List RowV) (a : Option Addr) (n c : Nat), rv = .slice a n c ∧ i = .int .i64 k ∧ k ≤ nl ∧ Hid (RI x0 x1 p wf wr k s L R a n c)) (fun _ i _ => nl - (intOf i).toNat)
  case atStart => exact ⟨0, _, L0, _, _, _, _, rfl, rfl, Nat.zero_le _, hI0⟩
  case round =>
    obtain ⟨k, s, L, R, ra, rn, rc, rfl, rfl, hk, hI⟩ := hrel
    rcases Nat.lt_or_ge k nl with hlt | hge
    · have dk : decide ((k : Int) < (nl : Int)) = true := decide_eq_true (by omega)
      obtain ⟨x, hx⟩ : ∃ x, xs[k]? = some x := ⟨_, List.getElem?_eq_getElem (by have := hAf.out.len; omega)⟩
      obtain ⟨g, off, hga, hg, hr⟩ := (hAf.out.below hI.out.bel).at' k x hx
      subst hga
      have hr := hid hr
      have hcl := hAf.out.le
      have htp := (hfb.out trivial).2 x (List.mem_append_left _ (List.mem_of_getElem? hx))
      have hn40 : nl ≤ 40 := by have := (hfb.out trivial).1; omega
      have CD := hid (law_does hI.out.ob hI.out.nil x (by have := htp.1; omega) (by have := hI.out.seq; omega))
      have hD := hid (hI.out.po.does hI.out.perm (by have := hI.out.seq; omega) x (by have := htp.1; omega))
      have hcn := hid (does_clen s x hI.out.len.2)
      have hsq := hid (does_seq s x)
      rw [hI.out.lp] at CD
      unfold ActV.cells refA at CD
      clear htp hg hx
      go_wp2_with (refine wpList_load_mid rfl 43 _ rfl g (off + k * 7) rfl [.int .i64 x.kind, .int .i64 x.qos, .string ⟨x.topic.toArray⟩, .string ⟨x.body.toArray⟩, .bool x.retain, .int .i64 x.pack, .int .i64 x.id] _ hr.out Tryz.underlying43 rfl (by kernel_rfl) ?_)
      refine CD.out.mono ?_
      rintro e w1 ⟨ad, nd, cd, bd, L1, rfl, D⟩
      have hrow1 := hid (hI.out.rows.step D.stp)
      obtain ⟨R', hap, hperm⟩ := hD.out.ap
      have hap := hid hap
      have hperm := hid hperm
      have hkR := hid (hI.out.rows.kind hI.out.perm rfl (fun r hr => (hI.out.po.row r hr).1))
      have hCA := hid fun (W : World) (hb : Below w1.heap.size w1 W) => r20_Apply R R' (s.does x).cs 0 wr.heap.size ra ad rn rc nd cd W (ownsRow_below hrow1.out.row hb) hrow1.out.len (ownsRow_below D.chgs hb) D.cnt.symm (by have := hI.out.len; omega) (by have := hcn.out; have := D.cnt; omega)
        (fun ch hch W' => r19_Right_any (hD.out.chg ch hch) (by decide) W') hkR.out (fun ch hch => (hD.out.chg ch hch).kind) hap.out
      replace D := hid D
      go_wp2_with fail
      have hal := (Below.refl w1.heap.size w1).alloc (Nat.le_refl _) (.cells #[.string ⟨#[]⟩, .int .i64 0, .int .i64 0, .int .i64 0, .int .i64 0, .slice none 0 0, .slice none 0 0, .slice none 0 0] 38)
      refine (hCA.out _ hal).mono ?_
      rintro e w2 ⟨v, rfl, hv2, hb2⟩
      obtain ⟨va, vc, hva⟩ := own_slice hv2
      subst hva
      have hI2 : Hid (RI x0 x1 p wf w2 (k + 1) (s.does x).s L1 R' va R'.length vc) := hid (by
        have hbb := hal.trans (hb2.mono (by simp))
        have hsz := D.out.ob.lt
        refine ⟨D.out.p.trans hI.out.lp, D.out.nil, ob_rebase2 (D.out.ob.below hbb) D.out.nil, (hI.out.stp.trans D.out.stp).trans (Stp.below hbb), hD.out.po, by have := hsq.out; have := hI.out.seq; omega, hperm.out, ⟨ownsRow_mono hv2 (Nat.zero_le _), rfl, fun y hy hf => ?_⟩⟩
        have h1 := (hv2.lt y (mem_blk.1 hy)).1
        have h2 := hsz y hf
        simp at h1
        omega)
      clear hv2 hb2 hal hCA hkR hrow1
      go_wp2_with fail
      exact ⟨⟨k + 1, _, _, _, _, _, _, rfl, by go_num, by omega, hI2⟩, by simp [intOf]; omega⟩
    · obtain rfl : k = nl := by omega
      have dk : decide ((k : Int) < (k : Int)) = false := by simp
      have hn40 : k ≤ 40 := by have := (hfb.out trivial).1; omega
      go_wp2_with fail
      obtain ⟨wa, hwa⟩ : ∃ wa, wa = wr := ⟨_, rfl⟩
      subst hwa
      have hP0 : Hid (PA wa (wa.alloc (.cells (RowV.vals ⟨0, [], 0, 0, [], [], 0, false, 0⟩) 33)) R 0 ⟨0, [], 0, 0, [], [], 0, false, 0⟩ none 0 0) := hid ⟨(Below.refl _ _).alloc (Nat.le_refl _) _, Blk.new _ _ _, rfl, World.ownsRow_nil _ _ _ _, rfl⟩
      have hrn : rn ≤ 1001 := hI.out.len.1
      go_loopw [17, 18] (fun ov i wj => ∃ (j : Nat) (sv : RowV) (a : Option Addr) (n c : Nat), ov = .slice a n c ∧ i = .int .i64 j ∧ j ≤ rn ∧ Hid (PA wa wj R j sv a n c)) (fun _ i _ => rn - (intOf i).toNat)
      case atStart => exact ⟨0, _, _, _, _, rfl, rfl, Nat.zero_le _, hP0⟩
      case round =>
        obtain ⟨j, sv, oa, on, oc, rfl, rfl, hj, hP⟩ := hrel
        rcases Nat.lt_or_ge j rn with hlt | hge
        · have dj : decide ((j : Int) < (rn : Int)) = true := decide_eq_true (by omega)
          obtain ⟨r, hr⟩ : ∃ r, R[j]? = some r := ⟨_, List.getElem?_eq_getElem (by have := hI.out.rows.len; omega)⟩
          obtain ⟨gr, hga, -, hrow⟩ := own_range RowV.cl RowV.cllen (l := R) (n := rn) hI.out.rows.len (ownsRow_below hI.out.rows.row hP.out.bel) (k := j) (x := r) hr
          subst hga
          have ck : wr.cell? ⟨gr, j * 9, none⟩ = some (.int .i64 r.kind) := hrow 0 _ rfl
          have hrow := hid hrow
          have hsn := hid (sessR_snoc (R.take j) r)
          have hon := hid (outsR_snoc (R.take j) r)
          rw [← take_snocR hr] at hsn hon
          have hr := hid hr
          by_cases h1 : r.kind = 1
          · have d1 : (r.kind == 1) = true := by simpa using h1
            rw [if_pos h1] at hsn hon
            replace h1 := hid h1
            go_wp2_with (first
              | (refine wpList_load_mid rfl 33 _ rfl gr (j * 9) rfl r.cl _ hrow.out Tryz.underlying33 rfl (by kernel_rfl) ?_)
              | (refine wpList_plain rfl fun _ hK => ?_; refine wp_store_whole 33 33 _ _ rfl 9 (fun w => by kernel_rfl) wa.heap.size _ r.vals rfl rfl hP.out.sess rfl rfl (by exact r.one) fun w7 h7 g7 => ?_; refine hK _ _ ?_))
            have hP2 : Hid (PA wa w7 R (j + 1) r oa on oc) := hid (by
              have hw := ((Wrote.of_below (M := [wa.heap.size]) hP.out.bel).trans g7)
              exact ⟨hw.below (Nat.le_refl _) (by simp), h7, hsn.out.symm, by rw [hon.out]; exact not_own hP.out.row g7 (fun y hy hb => by have := (hP.out.row.lt y (mem_blk.1 hb)).1; simp at hy; omega), by rw [hon.out]; exact hP.out.len⟩)
            exact ⟨⟨j + 1, _, _, _, _, rfl, by go_num, by omega, hP2⟩, by simp [intOf]; omega⟩
          · have d1 : (r.kind == 1) = false := by simpa using h1
            rw [if_neg h1] at hsn hon
            replace h1 := hid h1
            have hol := hid (show on ≤ 1001 by have h2 := hP.out.len; have h3 := List.length_filter_le (fun r : RowV => decide (r.kind ≠ 1)) (R.take j); unfold outsR at h2; simp at h2 h3; omega)
            go_wp2_with (first
              | (refine wpList_load_mid rfl 33 _ rfl gr (j * 9) rfl r.cl _ hrow.out Tryz.underlying33 rfl (by kernel_rfl) ?_)
              | (refine wpList_plain rfl fun _ hK => wp_slice_one _ rfl eRow (by decide) (by decide) (.agg r.cl.toArray) rfl rfl (hK _ _ ?_))
              | (at_builtin; refine append_grp rfl _ _ rfl eRow (by decide) (wa.heap.size + 1) _ _ _ rfl (hP.out.row.alloc _) wr.heap.size r.cl 33 rfl (Blk.new _ _ _) rfl (RowV.one _) (by have := hol.out; omega) (by have := hol.out; omega) (by have := hP.out.sess.lt; simp; omega) ?_; intro v6 w6 r6 g6 n6; obtain ⟨a6, c6, hv6⟩ := own_slice r6; subst hv6; replace r6 := hid r6; replace g6 := hid g6))
            have hP2 : Hid (PA wa w6 R (j + 1) sv a6 (on + 1) c6) := hid (by
              have hsl := hP.out.sess.lt
              have hbl := hP.out.bel
              refine ⟨(hbl.alloc hbl.size _).grown g6.out (by have := hbl.size; simp; omega) (fun y hy => by have := (hP.out.row.lt y hy).1; omega), (g6.out.block _ (by simp; omega) (fun e => by have := (hP.out.row.lt _ e.symm).1; omega)).trans (hP.out.sess.alloc _), hP.out.is.trans hsn.out.symm, by rw [hon.out, List.flatMap_append, List.flatMap_singleton]; exact r6.out, by rw [hon.out, List.length_append, hP.out.len]; rfl⟩)
            exact ⟨⟨j + 1, _, _, _, _, rfl, by go_num, by omega, hP2⟩, by simp [intOf]; omega⟩
        · obtain rfl : j = rn := by omega
          have dj : decide ((j : Int) < (j : Int)) = false := by simp
          have hpp : Hid ((outsR R).Perm s.l) := hid (outsR_perm hI.out.perm rfl (fun r hr => (hI.out.po.row r hr).1))
          have hPr := hP.out.row
          have hPl := hP.out.len
          have hPi := hP.out.is
          rw [List.take_of_length_le (by have := hI.out.rows.len; omega)] at hPr hPl hPi
          rw [sessR_perm hI.out.perm rfl (fun r hr => (hI.out.po.row r hr).1)] at hPi
          subst hPi
          have hbw := hid (hI.out.bel.trans (hP.out.bel.mono hI.out.bel.size))
          have hbxr := hid (hbx.out.below hbw.out)
          have c0 : wr.cell? ⟨w.heap.size, 0, none⟩ = some (.int .i64 x0) := hbxr.out.cell 0
          have c1 : wr.cell? ⟨w.heap.size, 1, none⟩ = some (.int .i64 x1) := hbxr.out.cell 1
          have CO := hid (out_Of_parted hI.out.po hI.out.ob.ok (by omega) (by have := hI.out.seq; omega) hpp.out _ oa oc on wr (hTf.out.below hbw.out) hPl hPr)
          have hsb := hid hP.out.sess
          clear hPr hPl
          go_wp2_with (refine wpList_load_mid rfl 33 _ rfl wa.heap.size 0 rfl s.session.cl _ hsb.out.range Tryz.underlying33 rfl (by kernel_rfl) ?_)
          refine CO.out.mono ?_
          rintro e w3 ⟨L2, rfl, hO2, hn2, hS2⟩
          have HL := hid (ob_rebase2 (hI.out.ob.below hP.out.bel) hI.out.nil)
          have hb3 : Below wr.heap.size wr w3 := hS2.wrote.below (Nat.le_refl _) (by simp)
          have HL3 := hid (HL.out.below hb3)
          have HO2 := hid hO2
          have hfo := hid (fun y (hy : y ∈ L2.foot) => (hS2.sub y hy).resolve_left (by simp))
          have hft := hid HL.out.lt
          have hbw3 := hid (hbw.out.trans (hb3.mono hbw.out.size))
          have hln := hid hI.out.nil
          have hwfr := hid hbw.out.size
          have hpo := hid hI.out.po
          have hsq := hid hI.out.seq
          have hst3 := hid ((hI.out.stp.trans (Stp.below hP.out.bel)).trans (Stp.below hb3))
          have hn2 := hid hn2
          have hll := hid hI.out.len.2
          have hlp := hid hI.out.lp
          obtain ⟨p2, hp2⟩ : ∃ p2, L2.p = p2 := ⟨_, rfl⟩
          rw [hp2]
          have CS2 := hid fun (W : World) (hb : Below w3.heap.size w3 W) => out_Session (HO2.out.below hb)
          have CS1 := hid fun (W : World) (hb : Below w3.heap.size w3 W) => out_Session (HL3.out.below hb)
          have CR2 := hid fun (W : World) (hb : Below w3.heap.size w3 W) => out_Rows (HO2.out.below hb)
          have CR1 := hid fun (W : World) (hb : Below w3.heap.size w3 W) => out_Rows (HL3.out.below hb)
          rw [hp2] at CS2 CR2
          rw [hlp.out] at CS1 CR1
          obtain ⟨SV, hSV⟩ : ∃ v, Value.agg s.session.vals = v := ⟨_, rfl⟩
          have hq1 : ∀ w, (binOp .neq 33 SV SV).run Tryz.prog w = .ok (.bool false) w := fun w => by rw [← hSV, run_rows_neq, (eqRow_iff _ _).2 rfl]; rfl
          have hq2 : ∀ s1 s2 w, (eqGuard .neq 33 s1 s2 SV SV).run Tryz.prog w = .ok () w := fun s1 s2 w => by rw [← hSV]; exact run_rows_guard _ _ _ _ _
          rw [hSV] at CS1 CS2
          clear hSV hO2 hS2 hb3 CO hsb hI hP hpp hP0 hI0 hbxr hrn hj hk c0 c1 hbw
          go_wp2_with fail
          refine (CS2.out _ (Below.refl _ _)).mono ?_
          rintro e w4 ⟨rfl, hb4⟩
          have hb4 := hid hb4
          go_wp2_with fail
          refine (CS1.out _ hb4.out).mono ?_
          rintro e w5 ⟨rfl, hb5⟩
          have hb5 := hid (hb4.out.trans (hb5.mono hb4.out.size))
          go_wp2_with fail
          refine (CR2.out _ hb5.out).mono ?_
          rintro e w6 ⟨v6, rfl, hR6, hb6⟩
          have hb6' := hid (hb5.out.trans (hb6.mono hb5.out.size))
          obtain ⟨a6, c6, hv6⟩ := own_slice hR6
          subst hv6
          unfold RowsAt at hR6
          have hR6 := hid hR6
          go_wp2_with fail
          refine (CR1.out _ hb6'.out).mono ?_
          rintro e w7 ⟨v7, rfl, hR7, hb7⟩
          obtain ⟨a7, c7, hv7⟩ := own_slice hR7
          subst hv7
          unfold RowsAt at hR7
          have CM := hid (r22_SameRows s.l s.l _ _ a6 a7 s.l.length s.l.length c6 c7 w7 (ownsRow_below hR6.out hb7) hR7 rfl rfl (by have := hll.out; omega))
          have hb7' := hid (hb6'.out.trans (hb7.mono hb6'.out.size))
          go_wp2_with fail
          refine CM.out.mono ?_
          rintro e w8 ⟨b8, rfl, hb8i, hb8⟩
          obtain rfl := hb8i.2 trivial
          have hb8' := hid (hb7'.out.trans (hb8.mono hb7'.out.size))
          clear hR6 hR7 CM CS1 CS2 CR1 CR2 hb4 hb5 hb6 hb6' hb7 hb7' hb8 hb8i hq1 hq2
          have hsm : sessMay (sessV s.client s.seq s.id) = true := by rw [hpo.out.cl]; exact sess_may hpo.out.may ⟨hpo.out.pos, by have := hsq.out; omega⟩ hpo.out.id
          have CC := hid (out_Copy (HL3.out.below hb8'.out) (hpo.out.good HL3.out.ok (List.Perm.refl _)) hpo.out.wn.rg.sorted (by have := hpo.out.wn.room; omega) (by have := hsq.out; omega) hsm)
          rw [hlp.out] at CC
          clear hsm
          go_wp2_with fail
          refine CC.out.mono ?_
          rintro e w9 ⟨L3, rfl, hO3, hn3, hS3⟩
          have hb9 : Below w8.heap.size w8 w9 := hS3.wrote.below (Nat.le_refl _) (by simp)
          have hb39 := hb8'.out.trans (hb9.mono hb8'.out.size)
          obtain ⟨p3, hp3⟩ : ∃ p3, L3.p = p3 := ⟨_, rfl⟩
          rw [hp3]
          have hJ0 : Hid (JI x0 x1 p p2 p3 w9.heap.size wf w9 k s s s L L2 L3) := hid (by
            have ho := ob_rebase2 (HL3.out.below hb39) hln.out
            have ho2 := ob_rebase2 (HO2.out.below hb39) hn2.out
            have l1 := HL3.out.lt
            have l2 := HO2.out.lt
            have s38 := hb8'.out.size
            have hf3 := fun y (hy : y ∈ L3.foot) => (hS3.sub y hy).resolve_left (by simp)
            refine ⟨hlp.out, hp2, hp3, hln.out, hn2.out, ho, ho2, hO3, fun y hy h2 => ?_, fun y hy h3 => ?_, fun y hy h3 => ?_, fun y hy => (hst3.out.sub y hy).resolve_left (by simp), fun y hy => ?_, hbw3.out.trans (hb39.mono hbw3.out.size), hpo.out, hpo.out, hsq.out, hsq.out⟩
            · have := hft.out y hy; have := hfo.out y h2; omega
            · have := l1 y hy; have := hf3 y h3; omega
            · have := l2 y hy; have := hf3 y h3; omega
            · have := hfo.out y hy; have := hwfr.out; omega)
          clear CC hO3 hS3 hn3 hb9 hb39 HL3 HO2 hfo hft hst3 hp2 hp3
          obtain ⟨B3, hB3⟩ : ∃ B, w9.heap.size = B := ⟨_, rfl⟩
          rw [hB3] at hJ0
          have hkm : k + ml ≤ 40 := by have := (hfb.out trivial).1; omega
          clear hB3
          go_wp2_with fail
          go_loopw [22] (fun i wr => ∃ (j : Nat) (t : OS) (L L2 : Lay), i = .int .i64 j ∧ j ≤ ml ∧ Hid (JI x0 x1 p p2 p3 B3 wf wr (k + j) t t s L L2 L3)) (fun i _ => ml - (intOf i).toNat)
          case atStart => exact ⟨0, s, L, L2, rfl, Nat.zero_le _, hid (by simpa using hJ0.out)⟩
          case round =>
            obtain ⟨j, t, M, M2, rfl, hj, hJ⟩ := hrel
            rcases Nat.lt_or_ge j ml with hlt | hge
            · have dj : decide ((j : Int) < (ml : Int)) = true := decide_eq_true (by omega)
              obtain ⟨x, hx⟩ : ∃ x, ys[j]? = some x := ⟨_, List.getElem?_eq_getElem (by have := hBf.out.len; omega)⟩
              have htp := (hfb.out trivial).2 x (List.mem_append_right _ (List.mem_of_getElem? hx))
              obtain ⟨g, off, hga, hr⟩ := acts_range hBf.out hx
              subst hga
              have hcl := hBf.out.le
              have hr0 := hid (hr _ hJ.out.bel)
              have hr := hid hr
              have hsj := hid hJ.out.seq
              have CD := hid (law_does hJ.out.ob hJ.out.nil x (by have := htp.1; omega) (by have := hsj.out; omega))
              have hPD := hid (hJ.out.po.does (List.Perm.refl _) (by have := hsj.out; omega) x (by have := htp.1; omega)).po
              have hsq2 : Hid ((t.does x).s.seq ≤ (k : Int) + (j + 1 : Nat)) := hid (by have := does_seq t x; have := hsj.out; omega)
              have hcn := hid (does_clen t x (by have := hJ.out.ob.ok.room; omega))
              have htp := hid htp
              rw [hJ.out.lp] at CD
              unfold ActV.cells refA at CD
              clear hx
              go_wp2_with (refine wpList_load_mid rfl 43 _ rfl g (off + j * 7) rfl [.int .i64 x.kind, .int .i64 x.qos, .string ⟨x.topic.toArray⟩, .string ⟨x.body.toArray⟩, .bool x.retain, .int .i64 x.pack, .int .i64 x.id] _ hr0.out Tryz.underlying43 rfl (by kernel_rfl) ?_)
              refine CD.out.mono ?_
              rintro e w1 ⟨ad, nd, cd, bd, M', rfl, D⟩
              obtain rfl := D.cnt
              have hal := (Below.refl w1.heap.size w1).alloc (Nat.le_refl _) (.cells #[.string ⟨#[]⟩, .int .i64 0, .int .i64 0, .int .i64 0, .int .i64 0, .slice none 0 0, .slice none 0 0, .slice none 0 0] 38)
              have hJ1 := hid ((hJ.out.one D hPD.out hsq2.out (by omega)).more hal)
              have hC1 := hid (ownsRow_below D.chgs hal)
              have hr1 := hid (hr.out _ hJ1.out.bel)
              have CD2 := hid (law_does hJ1.out.ob2 hJ1.out.nil2 x (by have := htp.out.1; omega) (by have := hsj.out; have := hJ.out.seq2; omega))
              rw [hJ1.out.lp2] at CD2
              unfold ActV.cells refA at CD2
              have hlt2 := hid hJ.out.ob2.lt
              clear hal D CD
              go_wp2_with (refine wpList_load_mid rfl 43 _ rfl g (off + j * 7) rfl [.int .i64 x.kind, .int .i64 x.qos, .string ⟨x.topic.toArray⟩, .string ⟨x.body.toArray⟩, .bool x.retain, .int .i64 x.pack, .int .i64 x.id] _ hr1.out Tryz.underlying43 rfl (by kernel_rfl) ?_)
              refine CD2.out.mono ?_
              rintro e w2 ⟨ad2, nd2, cd2, bd2, M2', rfl, D2⟩
              obtain rfl := D2.cnt
              have hal := (Below.refl w2.heap.size w2).alloc (Nat.le_refl _) (.cells #[.string ⟨#[]⟩, .int .i64 0, .int .i64 0, .int .i64 0, .int .i64 0, .slice none 0 0, .slice none 0 0, .slice none 0 0] 38)
              have hJ2 := hid ((hJ1.out.two D2 hPD.out hsq2.out (Int.le_refl _)).more hal)
              have hC2 := hid (ownsRow_below D2.chgs hal)
              have hC1' := hid (ownsRow_below (not_own hC1.out D2.stp.wrote (fun y hy hb => by have h1 := (hC1.out.lt y (mem_blk.1 hb)).1; have h2 := hlt2.out y hy; omega)) hal)
              have CS := hid (r_SameDid [] [] (t.does x).cs (t.does x).cs none ad none ad2 0 cd 0 cd2 _ (World.ownsRow_nil _ _ _ _) (ownsRow_mono hC1'.out (Nat.zero_le _)) (World.ownsRow_nil _ _ _ _) (ownsRow_mono hC2.out (Nat.zero_le _)) (fun _ => rfl) (by simp) (by have := hcn.out; omega))
              clear hC1 hC1' hC2 hal D2 CD2 hJ1 hr0 hr1
              go_wp2_with fail
              refine CS.out.mono ?_
              rintro e w3 ⟨⟨bb, rfl, hbb⟩, hb3⟩
              obtain rfl := hbb trivial trivial
              have hJ3 := hid (hJ2.out.more hb3)
              have hlb := hid hJ2.out.ob.ok.room
              clear CS hJ2 hb3 hbb
              have CR := hid (out_Rows hJ3.out.ob2)
              rw [hJ3.out.lp2] at CR
              go_wp2_with fail
              refine CR.out.mono ?_
              rintro e w4 ⟨v4, rfl, hR4, hb4⟩
              obtain ⟨a4, c4, hv4⟩ := own_slice hR4
              subst hv4
              unfold RowsAt at hR4
              have hJ4 := hid (hJ3.out.more hb4)
              have hR4 := hid hR4
              clear CR
              have CR := hid (out_Rows hJ4.out.ob)
              rw [hJ4.out.lp] at CR
              go_wp2_with fail
              refine CR.out.mono ?_
              rintro e w5 ⟨v5, rfl, hR5, hb5⟩
              obtain ⟨a5, c5, hv5⟩ := own_slice hR5
              subst hv5
              unfold RowsAt at hR5
              have hJ5 := hid (hJ4.out.more hb5)
              have hR5 := hid hR5
              clear CR
              have CM := hid (r22_SameRows (t.does x).s.l (t.does x).s.l _ _ a4 a5 _ _ c4 c5 w5 (ownsRow_below hR4.out hb5) hR5.out rfl rfl (by have := hlb.out; omega))
              go_wp2_with fail
              refine CM.out.mono ?_
              rintro e w6 ⟨b6, rfl, hb6i, hb6⟩
              obtain rfl := hb6i.2 trivial
              have hJ6 := hid (hJ5.out.more hb6)
              clear CM hR4 hR5 hJ3 hJ4 hJ5 hb4 hb5 hb6
              go_wp2_with fail
              exact ⟨⟨j + 1, _, _, _, by go_num, by omega, hJ6⟩, by simp [intOf]; omega⟩
            · obtain rfl : j = ml := by omega
              have dj : decide ((j : Int) < (j : Int)) = false := by simp
              have hl3 := hid hJ.out.ob3.ok.room
              have hl1 := hid hJ.out.ob.ok.room
              have CR := hid (out_Rows hJ.out.ob3)
              rw [hJ.out.lp3] at CR
              go_wp2_with fail
              refine CR.out.mono ?_
              rintro e w4 ⟨v4, rfl, hR4, hb4⟩
              obtain ⟨a4, c4, hv4⟩ := own_slice hR4
              subst hv4
              unfold RowsAt at hR4
              have hJ4 := hid (hJ.out.more hb4)
              have hR4 := hid hR4
              clear CR
              have CR := hid (out_Rows hJ4.out.ob2)
              rw [hJ4.out.lp2] at CR
              go_wp2_with fail
              refine CR.out.mono ?_
              rintro e w5 ⟨v5, rfl, hR5, hb5⟩
              obtain ⟨a5, c5, hv5⟩ := own_slice hR5
              subst hv5
              unfold RowsAt at hR5
              have hJ5 := hid (hJ4.out.more hb5)
              have hR5 := hid hR5
              clear CR
              have CM := hid (r22_SameRows s.l t.l _ _ a4 a5 _ _ c4 c5 w5 (ownsRow_below hR4.out hb5) hR5.out rfl rfl (by have := hl3.out; omega))
              go_wp2_with fail
              refine CM.out.mono ?_
              rintro e w6 ⟨b6, rfl, hb6i, hb6⟩
              have hJ6 := hid (hJ5.out.more hb6)
              replace hb6i := hid hb6i
              clear CM hR4 hR5 hJ4 hJ5 hb4 hb5 hb6
              have CR := hid (out_Rows hJ6.out.ob3)
              rw [hJ6.out.lp3] at CR
              go_wp2_with fail
              refine CR.out.mono ?_
              rintro e w7 ⟨v7, rfl, hR7, hb7⟩
              obtain ⟨a7, c7, hv7⟩ := own_slice hR7
              subst hv7
              unfold RowsAt at hR7
              have hJ7 := hid (hJ6.out.more hb7)
              have hR7 := hid hR7
              clear CR
              have CR := hid (out_Rows hJ7.out.ob)
              rw [hJ7.out.lp] at CR
              go_wp2_with fail
              refine CR.out.mono ?_
              rintro e w8 ⟨v8, rfl, hR8, hb8⟩
              obtain ⟨a8, c8, hv8⟩ := own_slice hR8
              subst hv8
              unfold RowsAt at hR8
              have hJ8 := hid (hJ7.out.more hb8)
              have hR8 := hid hR8
              clear CR
              have CM := hid (r22_SameRows s.l t.l _ _ a7 a8 _ _ c7 c8 w8 (ownsRow_below hR7.out hb8) hR8.out rfl rfl (by have := hl3.out; omega))
              go_wp2_with fail
              refine CM.out.mono ?_
              rintro e w9 ⟨b9, rfl, hb9i, hb9⟩
              have hJ9 := hid (hJ8.out.more hb9)
              obtain rfl : b6 = b9 := by rw [Bool.eq_iff_iff]; exact hb6i.out.trans hb9i.symm
              have hbe : (b6 == b6) = true := by simp
              clear CM hR7 hR8 hJ7 hJ8 hb7 hb8 hb9 hb6i hb9i hJ6
              go_wp2_with fail
              refine (KH.out _ (hTf.out.below hJ9.out.bel)).mono ?_
              rintro e w10 ⟨rfl, hb10⟩
              go_wp2
              go_ret
              exact ⟨rfl, hbf.out.trans ((hJ9.out.bel.trans (hb10.mono hJ9.out.bel.size)).mono hbf.out.size)⟩
end Go.Proofs.YtoinabapaeebfaaGreatDoor
namespace Go.Proofs.YtoinabapaeebfaaGreatDoor
open Go.RowKit Go.Shelf Go.Deep
variable {H : Type} {enc : TypeId × Value → H}

instance : Inhabited ActV := ⟨⟨0, 0, [], [], false, 0, 0⟩⟩
set_option maxRecDepth 100000 in
theorem act_of {w : World} {base : Nat} {sp : Nat → Bool} {held : Bool} {fuel : Nat} {cs : List Value} {x : DataW H × List MemPlace} (h : DataW.trod enc Tryz.prog w base sp held fuel 43 cs = some x) : ∃ y : ActV, cs = y.cells.toList := by
  obtain ⟨xs, k, _, _, hlen, hxl, hf⟩ := DataW.trod_struct Tryz.underlying43 h
  have c7 : Tryz.prog.cellsOf 43 = 7 := by kernel_rfl
  rw [c7] at hlen
  have i1 : Tryz.prog.cellsOf 3 = 1 := by kernel_rfl
  have i2 : Tryz.prog.cellsOf 9 = 1 := by kernel_rfl
  have i3 : Tryz.prog.cellsOf 4 = 1 := by kernel_rfl
  have i4 : Tryz.prog.cellsOf 41 = 1 := by kernel_rfl
  have i5 : Tryz.prog.cellsOf 2 = 1 := by kernel_rfl
  match cs, hlen with
  | [v0, v1, v2, v3, v4, v5, v6], _ =>
    have g0 : DataW.trod enc Tryz.prog w base sp held k 3 (([v0, v1, v2, v3, v4, v5, v6].drop 0).take (Tryz.prog.cellsOf 3)) = xs[0]? := hf 0 _ rfl
    have g1 : DataW.trod enc Tryz.prog w base sp held k 3 (([v0, v1, v2, v3, v4, v5, v6].drop 1).take (Tryz.prog.cellsOf 3)) = xs[1]? := hf 1 _ rfl
    have g2 : DataW.trod enc Tryz.prog w base sp held k 9 (([v0, v1, v2, v3, v4, v5, v6].drop 2).take (Tryz.prog.cellsOf 9)) = xs[2]? := hf 2 _ rfl
    have g3 : DataW.trod enc Tryz.prog w base sp held k 9 (([v0, v1, v2, v3, v4, v5, v6].drop 3).take (Tryz.prog.cellsOf 9)) = xs[3]? := hf 3 _ rfl
    have g4 : DataW.trod enc Tryz.prog w base sp held k 4 (([v0, v1, v2, v3, v4, v5, v6].drop 4).take (Tryz.prog.cellsOf 4)) = xs[4]? := hf 4 _ rfl
    have g5 : DataW.trod enc Tryz.prog w base sp held k 41 (([v0, v1, v2, v3, v4, v5, v6].drop 5).take (Tryz.prog.cellsOf 41)) = xs[5]? := hf 5 _ rfl
    have g6 : DataW.trod enc Tryz.prog w base sp held k 2 (([v0, v1, v2, v3, v4, v5, v6].drop 6).take (Tryz.prog.cellsOf 2)) = xs[6]? := hf 6 _ rfl
    rw [i1] at g0 g1
    rw [i2] at g2 g3
    rw [i3] at g4
    rw [i4] at g5
    rw [i5] at g6
    have hx7 : xs.length = 7 := hxl
    rw [List.getElem?_eq_getElem (by omega)] at g0 g1 g2 g3 g4 g5 g6
    obtain ⟨n0, e0, _⟩ := DataW.trod_int Tryz.underlying3 g0
    obtain ⟨n1, e1, _⟩ := DataW.trod_int Tryz.underlying3 g1
    obtain ⟨s2, e2, _⟩ := DataW.trod_string Tryz.underlying9 g2
    obtain ⟨s3, e3, _⟩ := DataW.trod_string Tryz.underlying9 g3
    obtain ⟨b4, e4, _⟩ := DataW.trod_bool Tryz.underlying4 g4
    obtain ⟨n5, e5, _⟩ := DataW.trod_int Tryz.underlying41 g5
    obtain ⟨n6, e6, _⟩ := DataW.trod_int Tryz.underlying2 g6
    simp at e0 e1 e2 e3 e4 e5 e6
    subst e0 e1 e2 e3 e4 e5 e6
    exact ⟨⟨n0, n1, s2.data.toList, s3.data.toList, b4, n5, n6⟩, by simp [ActV.cells]⟩
theorem cell_blk_lt {w : World} {b o : Nat} {v : Value} (h : w.cell? ⟨b, o, none⟩ = some v) : b < w.heap.size := by
  rcases Nat.lt_or_ge b w.heap.size with h1 | h1
  · exact h1
  · unfold World.cell? at h
    simp [Array.getElem?_eq_none h1] at h
theorem acts_of {w : World} {base : Nat} {held : Bool} {fuel : Nat} {cs : List Value} {x : DataW H × List MemPlace} (h : DataW.trod enc Tryz.prog w base (fun _ => true) held fuel 23 cs = some x) :
    ∃ a n cap xs, cs = [.slice a n cap] ∧ ActsAt w a n cap xs := by
  have c7 : Tryz.prog.cellsOf 43 = 7 := by kernel_rfl
  rcases open_slice Tryz.underlying23 h with ⟨hcs, _⟩ | ⟨a, len, cap, m, n, D, Pl, rfl, hb, hl, hm, hmm, _, hx⟩
  · exact ⟨none, 0, 0, [], hcs, rfl, Nat.le_refl _, Nat.zero_le _, fun i x hx => by simp at hx⟩
  · simp only [if_true] at hmm
    subst hmm
    rw [c7] at hx
    have each : ∀ i, i < m → ∃ y : ActV, w.cells? base (a.add (i * 7)) 7 = some y.cells.toList := fun i hi => by
      obtain ⟨cs', h1, h2⟩ := hx i hi
      obtain ⟨y, rfl⟩ := act_of h2
      exact ⟨y, h1⟩
    obtain ⟨Y, hY⟩ := choose_lt each
    refine ⟨some a, len, m, (List.range len).map Y, rfl, by simp, hl, hm, fun i y hy => ?_⟩
    have hi : i < len := by have := (List.getElem?_eq_some_iff.1 hy).1; simpa using this
    have hy' : Y i = y := by simpa [hi] using hy
    have h1 := hY i (by omega)
    rw [hy'] at h1
    obtain ⟨_, hlen, hcell⟩ := World.cells?_some h1
    have hc0 := hcell 0 (by omega)
    obtain ⟨b, off, spot⟩ := a
    have hc0' : w.cell? (((⟨b, off, spot⟩ : Addr).add (i * 7)).add 0) = some (.int .i64 y.kind) := hc0
    have hspot : spot = none := by
      obtain ⟨_, _, hz⟩ := World.cells?_some (hY 0 (by omega))
      have hz0 : w.cell? (((⟨b, off, spot⟩ : Addr).add (0 * 7)).add 0) = some (.int .i64 (Y 0).kind) := hz 0 (by omega)
      exact World.cell?_spot hz0
    subst hspot
    simp only [Addr.add_mid] at hcell hc0'
    refine ⟨b, off, rfl, ?_, fun j v hj => ?_⟩
    · exact cell_blk_lt hc0'
    · have hj7 : j < 7 := by have := (List.getElem?_eq_some_iff.1 hj).1; simpa [ActV.cells] using this
      rw [hcell j hj7]; exact hj
open Go.WideShapes in
theorem okWide_array {P : Program} {w : World} {r : Reach} {base : Nat} {t e : TypeId} {n : Nat} {v : Value} (ht : P.underlying t = some (.array n e)) (h : Value.okWide P w r base t v) : ∃ cs, v = .agg cs ∧ cs.size = P.cellsOf t := by
  simp only [Value.okWide, ht] at h
  obtain ⟨cs, h1, h2, _⟩ := h
  exact ⟨cs, h1, h2⟩
set_option maxRecDepth 100000 in
theorem pair_of {w : World} {base : Nat} {r : Reach} {v : Value} {sp : Nat → Bool} {held : Bool} {x : DataW H × List MemPlace} (hv : Value.okWide Tryz.prog w r base 22 v) (h : ∃ fuel, DataW.trod enc Tryz.prog w 0 sp held fuel 22 v.cells.toList = some x) :
    ∃ a b, v = .agg #[.int .i64 a, .int .i64 b] := by
  obtain ⟨cs, rfl, hs⟩ := okWide_array Tryz.underlying22 hv
  obtain ⟨fuel, h⟩ := h
  obtain ⟨xs, m, _, _, hlen, hxl, hf⟩ := DataW.trod_array Tryz.underlying22 h
  have c1 : Tryz.prog.cellsOf 3 = 1 := by kernel_rfl
  have c2 : Tryz.prog.cellsOf 22 = 2 := by kernel_rfl
  rw [c2] at hs
  obtain ⟨l⟩ := cs
  match l, hs with
  | [v0, v1], _ =>
    have g0 := hf 0 (by omega)
    have g1 := hf 1 (by omega)
    rw [c1] at g0 g1
    rw [List.getElem?_eq_getElem (by omega)] at g0 g1
    obtain ⟨n0, e0, _⟩ := DataW.trod_int Tryz.underlying3 g0
    obtain ⟨n1, e1, _⟩ := DataW.trod_int Tryz.underlying3 g1
    simp [Value.cells] at e0 e1
    subst e0 e1
    exact ⟨n0, n1, rfl⟩
end Go.Proofs.YtoinabapaeebfaaGreatDoor
