/- The walk of known. · OutboxTurns: what holds in memory at each turn, and from turn to turn. -/
import Derived.Test.YtodbdojjllabmaaGreatDoorPk26
import Derived.Test.YtodbdojjllabmaaGreatDoorPk28
namespace Go.Proofs.YtodbdojjllabmaaGreatDoor
open Go.RowKit Go.Shelf

def kS0 : OS := ⟨[99], 1, 5, 0, 1, []⟩
def kS1 : OS := kS0.put (kS0.row [97] [120] 1 false)
def kS2 : OS := kS1.put (kS1.row [97] [121] 2 false)
def kX3 : SS := kS2.start.all.fin kS2.seq kS2.id
def kX4 : SS := (kX3.s.start.ack 1).all.fin kX3.s.seq kX3.s.id
def kX5 : SS := (kX4.s.start.rec' 2).all.fin kX4.s.seq kX4.s.id
def kX6 : SS := (kX5.s.start.comp 2).all.fin kX5.s.seq kX5.s.id
theorem kM0 : sessMay (sessV [99] 0 1) = true := by kernel_rfl
theorem kM1 : putMay (kS0.row [97] [120] 1 false) = true := by kernel_rfl
theorem kM2 : putMay (kS1.row [97] [121] 2 false) = true := by kernel_rfl
theorem kP3 : kX3.ps = [⟨3, false, false, 1, [97], [120], 1⟩] := by kernel_rfl
theorem kP4 : kX4.ps = [⟨3, false, false, 2, [97], [121], 2⟩] := by kernel_rfl
theorem kP5 : kX5.ps = [pubrel 2] := by kernel_rfl
theorem kP6 : kX6.s.l = [] := by kernel_rfl


/-- A block that no outbox writes. -/
structure Kept (w : World) (F : List Nat) (b : Nat) (cs : Array Value) (T : TypeId) : Prop where
  blk : Blk w b cs T
  out : b ∉ F
theorem Kept.step {w w' : World} {F F' : List Nat} {b : Nat} {cs : Array Value} {T : TypeId} (h : Kept w F b cs T) (s : Stp F F' w w') : Kept w' F' b cs T := ⟨h.blk.wrote s.wrote h.out, s.not h.out h.blk.lt⟩
theorem Kept.alloc {w : World} {F : List Nat} {b : Nat} {cs : Array Value} {T : TypeId} (h : Kept w F b cs T) (o : Obj) : Kept (w.alloc o) F b cs T := ⟨h.blk.alloc o, h.out⟩
theorem Kept.box {w : World} {B : Nat} {L : Lay} {s : OS} {ps : List PackV} {cs : List ChangeV} (h : OB w B L s ps cs) (c : Array Value) (T : TypeId) : Kept (w.alloc (.cells c T)) L.foot w.heap.size c T := ⟨Blk.new w c T, fun hx => by have := h.lt _ hx; omega⟩
theorem DidAt.arr {w w' : World} {L L' : Lay} {s' : OS} {vp vc : Value} {cs : List ChangeV} {x : PackV} (d : DidAt w w' L L' s' vp vc [x] cs) : ∃ (g cap : Nat) (cur : Array Value), vp = .slice (some ⟨g, 0, none⟩) 1 cap ∧ Kept w' L'.foot g cur 45 ∧ (∀ (j : Nat) (v : Value), x.cells[j]? = some v → cur[j]? = some v) := by
  have hp := d.packs
  have hf := foot_nil_not d.ob d.nil.1 d.nil.2 hp (.inl rfl)
  obtain ⟨hl, ⟨rfl, h0⟩ | ⟨g, cap, cur, rfl, _, hg, _, _, _, ht⟩⟩ := hp
  · simp at h0
  · refine ⟨g, cap, cur, rfl, ⟨hg, fun hx => hf g hx (by simp [YtodbdojjllabmaaGreatDoor.blk, Value.ownBlock])⟩, fun j v hj => ?_⟩
    have hlt := (List.getElem?_eq_some_iff.1 hj).1
    have h24 : x.cells.length = 24 := rfl
    have e : ([x] : List PackV).flatMap PackV.cells = x.cells := by simp
    rw [e] at ht
    rw [← ht, List.getElem?_take_of_lt (by simp; omega)] at hj
    simpa using hj
theorem asc (c : UInt8) (h : c.toNat < 128) : AnyOK [c] := anyOK_ascii [c] (by simp) (fun j b hb => by
  cases j with
  | zero => simp at hb; subst hb; exact h
  | succ j => simp at hb)

set_option maxRecDepth 100000 in
set_option maxHeartbeats 4000000 in
theorem known_holds (w : World) (hT : TzAt w) : Calls Tryz.prog 13 #[] w fun e w' => e = .returned (.bool true) ∧ Below w.heap.size w w' := by
  have CN := hid (out_New 1 5 [99] w hT (by decide) (by decide) (by decide) kM0)
  go_enter Tryz.func13, Tryz.ntmps13
  go_wp2_with fail
  refine CN.out.mono ?_
  rintro e w0 ⟨L0, rfl, hO0, hn0, hS0⟩
  have hO0 := hid hO0
  go_wp2_with fail
  refine (out_Put hO0.out hn0 [97] [120] 1 false (by decide) (asc 97 (by decide)) kM1 (by decide) (by decide)).mono ?_
  rintro e w1 ⟨vp1, vc1, L1, rfl, d1⟩
  obtain ⟨ap1, cp1, rfl⟩ := own_slice d1.packs
  obtain ⟨ac1, cc1, rfl⟩ := own_slice d1.chgs
  have hp1 := d1.p
  have D1 := hid d1
  clear d1
  rw [← hp1]
  clear hp1
  have N1 := D1.out.nil
  go_wp2_with fail
  have A1 := hid (Kept.box D1.out.ob #[.slice ap1 0 cp1, .slice ac1 2 cc1] 34)
  have O1 : Hid (OB _ _ L1 kS1 [] []) := hid (D1.out.ob.alloc (.cells #[.slice ap1 0 cp1, .slice ac1 2 cc1] 34))
  refine (out_Put O1.out N1 [97] [121] 2 false (by decide) (asc 97 (by decide)) kM2 (by decide) (by decide)).mono ?_
  rintro e w2 ⟨vp2, vc2, L2, rfl, d2⟩
  obtain ⟨ap2, cp2, rfl⟩ := own_slice d2.packs
  obtain ⟨ac2, cc2, rfl⟩ := own_slice d2.chgs
  have hp2 := d2.p
  have D2 : Hid (DidAt _ w2 L1 L2 kS2 _ _ _ _) := hid d2
  clear d2
  rw [← hp2]
  clear hp2 O1
  have A2 := hid (A1.out.step D2.out.stp)
  have N2 := D2.out.nil
  go_wp2_with fail
  have O2 : Hid (OB _ _ L2 kS2 [] []) := hid (D2.out.ob.alloc (.cells #[.slice ap2 0 cp2, .slice ac2 2 cc2] 34))
  have A2' := hid (A2.out.alloc (.cells #[.slice ap2 0 cp2, .slice ac2 2 cc2] 34))
  clear A1 A2
  refine (out_Send O2.out N2).mono ?_
  rintro e w3 ⟨vp3, vc3, L3, rfl, d3⟩
  have D3 : Hid (DidAt _ w3 L2 L3 kX3.s vp3 vc3 kX3.ps kX3.cs) := hid d3
  clear d3
  rw [kP3] at D3
  obtain ⟨g3, cp3, cur3, rfl, B3, h3⟩ := D3.out.arr
  have H3 := hid h3
  obtain ⟨ac3, cc3, rfl⟩ := own_slice D3.out.chgs
  have hp3 := D3.out.p
  rw [← hp3]
  clear hp3 O2 h3
  have A3 := hid (A2'.out.step D3.out.stp)
  have N3 := D3.out.nil
  generalize kX3.cs.length = n3 at *
  go_wp2_with fail
  have O3 : Hid (OB _ _ L3 kX3.s [] []) := hid (D3.out.ob.alloc (.cells #[.slice (some ⟨g3, 0, none⟩) 1 cp3, .slice ac3 n3 cc3] 34))
  have A3' := hid (A3.out.alloc (.cells #[.slice (some ⟨g3, 0, none⟩) 1 cp3, .slice ac3 n3 cc3] 34))
  have B3' := hid (B3.alloc (.cells #[.slice (some ⟨g3, 0, none⟩) 1 cp3, .slice ac3 n3 cc3] 34))
  have C3' := hid (Kept.box D3.out.ob #[.slice (some ⟨g3, 0, none⟩) 1 cp3, .slice ac3 n3 cc3] 34)
  clear A2' A3 B3
  refine (out_Hear4 O3.out N3 1 (by decide)).mono ?_
  rintro e w4 ⟨vp4, vc4, L4, rfl, d4⟩
  have D4 : Hid (DidAt _ w4 L3 L4 kX4.s vp4 vc4 kX4.ps kX4.cs) := hid d4
  clear d4
  rw [kP4] at D4
  obtain ⟨g4, cp4, cur4, rfl, B4, h4⟩ := D4.out.arr
  have H4 := hid h4
  clear h4
  obtain ⟨ac4, cc4, rfl⟩ := own_slice D4.out.chgs
  have hp4 := D4.out.p
  rw [← hp4]
  clear hp4 O3
  have A3s4 := hid (A3'.out.step D4.out.stp)
  have B3s4 := hid (B3'.out.step D4.out.stp)
  have C3s4 := hid (C3'.out.step D4.out.stp)
  have N4 := D4.out.nil
  generalize kX4.cs.length = n4 at *
  go_wp2_with fail
  have O4 : Hid (OB _ _ L4 kX4.s [] []) := hid (D4.out.ob.alloc (.cells #[.slice (some ⟨g4, 0, none⟩) 1 cp4, .slice ac4 n4 cc4] 34))
  have A3t4 := hid (A3s4.out.alloc (.cells #[.slice (some ⟨g4, 0, none⟩) 1 cp4, .slice ac4 n4 cc4] 34))
  have B3t4 := hid (B3s4.out.alloc (.cells #[.slice (some ⟨g4, 0, none⟩) 1 cp4, .slice ac4 n4 cc4] 34))
  have C3t4 := hid (C3s4.out.alloc (.cells #[.slice (some ⟨g4, 0, none⟩) 1 cp4, .slice ac4 n4 cc4] 34))
  have B4' := hid (B4.alloc (.cells #[.slice (some ⟨g4, 0, none⟩) 1 cp4, .slice ac4 n4 cc4] 34))
  have C4' := hid (Kept.box D4.out.ob #[.slice (some ⟨g4, 0, none⟩) 1 cp4, .slice ac4 n4 cc4] 34)
  clear A3' B3' C3' A3s4 B3s4 C3s4 B4
  refine (out_Hear5 O4.out N4 2 (by decide)).mono ?_
  rintro e w5 ⟨vp5, vc5, L5, rfl, d5⟩
  have D5 : Hid (DidAt _ w5 L4 L5 kX5.s vp5 vc5 kX5.ps kX5.cs) := hid d5
  clear d5
  rw [kP5] at D5
  obtain ⟨g5, cp5, cur5, rfl, B5, h5⟩ := D5.out.arr
  have H5 := hid h5
  clear h5
  obtain ⟨ac5, cc5, rfl⟩ := own_slice D5.out.chgs
  have hp5 := D5.out.p
  rw [← hp5]
  clear hp5 O4
  have A3s5 := hid (A3t4.out.step D5.out.stp)
  have B3s5 := hid (B3t4.out.step D5.out.stp)
  have C3s5 := hid (C3t4.out.step D5.out.stp)
  have B4s5 := hid (B4'.out.step D5.out.stp)
  have C4s5 := hid (C4'.out.step D5.out.stp)
  have N5 := D5.out.nil
  generalize kX5.cs.length = n5 at *
  go_wp2_with fail
  have O5 : Hid (OB _ _ L5 kX5.s [] []) := hid (D5.out.ob.alloc (.cells #[.slice (some ⟨g5, 0, none⟩) 1 cp5, .slice ac5 n5 cc5] 34))
  have A3t5 := hid (A3s5.out.alloc (.cells #[.slice (some ⟨g5, 0, none⟩) 1 cp5, .slice ac5 n5 cc5] 34))
  have B3t5 := hid (B3s5.out.alloc (.cells #[.slice (some ⟨g5, 0, none⟩) 1 cp5, .slice ac5 n5 cc5] 34))
  have C3t5 := hid (C3s5.out.alloc (.cells #[.slice (some ⟨g5, 0, none⟩) 1 cp5, .slice ac5 n5 cc5] 34))
  have B4t5 := hid (B4s5.out.alloc (.cells #[.slice (some ⟨g5, 0, none⟩) 1 cp5, .slice ac5 n5 cc5] 34))
  have C4t5 := hid (C4s5.out.alloc (.cells #[.slice (some ⟨g5, 0, none⟩) 1 cp5, .slice ac5 n5 cc5] 34))
  have B5' := hid (B5.alloc (.cells #[.slice (some ⟨g5, 0, none⟩) 1 cp5, .slice ac5 n5 cc5] 34))
  have C5' := hid (Kept.box D5.out.ob #[.slice (some ⟨g5, 0, none⟩) 1 cp5, .slice ac5 n5 cc5] 34)
  clear A3t4 B3t4 C3t4 B4' C4' A3s5 B3s5 C3s5 B4s5 C4s5 B5
  refine (out_Hear7 O5.out N5 2 (by decide)).mono ?_
  rintro e w6 ⟨vp6, vc6, L6, rfl, d6⟩
  have D6 : Hid (DidAt _ w6 L5 L6 kX6.s vp6 vc6 kX6.ps kX6.cs) := hid d6
  clear d6
  obtain ⟨ap6, cp6, rfl⟩ := own_slice D6.out.packs
  obtain ⟨ac6, cc6, rfl⟩ := own_slice D6.out.chgs
  have hp6 := D6.out.p
  rw [← hp6]
  clear hp6 O5
  have A3s6 := hid (A3t5.out.step D6.out.stp)
  have B3s6 := hid (B3t5.out.step D6.out.stp)
  have C3s6 := hid (C3t5.out.step D6.out.stp)
  have B4s6 := hid (B4t5.out.step D6.out.stp)
  have C4s6 := hid (C4t5.out.step D6.out.stp)
  have B5s6 := hid (B5'.out.step D6.out.stp)
  have C5s6 := hid (C5'.out.step D6.out.stp)
  have N6 := D6.out.nil
  generalize kX6.cs.length = n6 at *
  generalize kX6.ps.length = m6 at *
  have O6 : Hid (OB _ _ L6 kX6.s [] []) := hid (D6.out.ob.alloc (.cells #[.slice ap6 m6 cp6, .slice ac6 n6 cc6] 34))
  have A3t6 := hid (A3s6.out.alloc (.cells #[.slice ap6 m6 cp6, .slice ac6 n6 cc6] 34))
  have B3t6 := hid (B3s6.out.alloc (.cells #[.slice ap6 m6 cp6, .slice ac6 n6 cc6] 34))
  have C3t6 := hid (C3s6.out.alloc (.cells #[.slice ap6 m6 cp6, .slice ac6 n6 cc6] 34))
  have B4t6 := hid (B4s6.out.alloc (.cells #[.slice ap6 m6 cp6, .slice ac6 n6 cc6] 34))
  have C4t6 := hid (C4s6.out.alloc (.cells #[.slice ap6 m6 cp6, .slice ac6 n6 cc6] 34))
  have B5t6 := hid (B5s6.out.alloc (.cells #[.slice ap6 m6 cp6, .slice ac6 n6 cc6] 34))
  have C5t6 := hid (C5s6.out.alloc (.cells #[.slice ap6 m6 cp6, .slice ac6 n6 cc6] 34))
  clear A3t5 B3t5 C3t5 B4t5 C4t5 B5' C5' A3s6 B3s6 C3s6 B4s6 C4s6 B5s6 C5s6
  have CL := hid (out_Len O6.out)
  rw [kP6] at CL
  have a1 : (w6.alloc (.cells #[.slice ap6 m6 cp6, .slice ac6 n6 cc6] 34)).cell? ⟨w1.heap.size, 1, none⟩ = some (.slice ac1 2 cc1) := A3t6.out.blk.cell 1
  have c30 : (w6.alloc (.cells #[.slice ap6 m6 cp6, .slice ac6 n6 cc6] 34)).cell? ⟨w3.heap.size, 0, none⟩ = some (.slice (some ⟨g3, 0, none⟩) 1 cp3) := C3t6.out.blk.cell 0
  have c40 : (w6.alloc (.cells #[.slice ap6 m6 cp6, .slice ac6 n6 cc6] 34)).cell? ⟨w4.heap.size, 0, none⟩ = some (.slice (some ⟨g4, 0, none⟩) 1 cp4) := C4t6.out.blk.cell 0
  have c50 : (w6.alloc (.cells #[.slice ap6 m6 cp6, .slice ac6 n6 cc6] 34)).cell? ⟨w5.heap.size, 0, none⟩ = some (.slice (some ⟨g5, 0, none⟩) 1 cp5) := C5t6.out.blk.cell 0
  have b35 : (w6.alloc (.cells #[.slice ap6 m6 cp6, .slice ac6 n6 cc6] 34)).cell? ⟨g3, 5, none⟩ = some (.string ⟨#[120]⟩) := (B3t6.out.blk.cell 5).trans (H3.out 5 _ rfl)
  have b36 : (w6.alloc (.cells #[.slice ap6 m6 cp6, .slice ac6 n6 cc6] 34)).cell? ⟨g3, 6, none⟩ = some (.int .i64 1) := (B3t6.out.blk.cell 6).trans (H3.out 6 _ rfl)
  have b45 : (w6.alloc (.cells #[.slice ap6 m6 cp6, .slice ac6 n6 cc6] 34)).cell? ⟨g4, 5, none⟩ = some (.string ⟨#[121]⟩) := (B4t6.out.blk.cell 5).trans (H4.out 5 _ rfl)
  have b46 : (w6.alloc (.cells #[.slice ap6 m6 cp6, .slice ac6 n6 cc6] 34)).cell? ⟨g4, 6, none⟩ = some (.int .i64 2) := (B4t6.out.blk.cell 6).trans (H4.out 6 _ rfl)
  have b50 : (w6.alloc (.cells #[.slice ap6 m6 cp6, .slice ac6 n6 cc6] 34)).cell? ⟨g5, 0, none⟩ = some (.int .i64 6) := (B5t6.out.blk.cell 0).trans (H5.out 0 _ rfl)
  have hst6 := hid (((((((hS0.trans D1.out.stp).trans (Stp.below ((Below.refl _ _).alloc (Nat.le_refl _) _))).trans D2.out.stp).trans (Stp.below ((Below.refl _ _).alloc (Nat.le_refl _) _))).trans D3.out.stp).trans (Stp.below ((Below.refl _ _).alloc (Nat.le_refl _) _))).trans D4.out.stp)
  have hst7 := hid (((((hst6.out.trans (Stp.below ((Below.refl _ _).alloc (Nat.le_refl _) _))).trans D5.out.stp).trans (Stp.below ((Below.refl _ _).alloc (Nat.le_refl _) _))).trans D6.out.stp).trans (Stp.below ((Below.refl _ _).alloc (Nat.le_refl _) (.cells #[.slice ap6 m6 cp6, .slice ac6 n6 cc6] 34))))
  clear A3t6 B3t6 C3t6 B4t6 C4t6 B5t6 C5t6
  go_wp2_with (go_at_call 12; refine CL.out.mono ?_; rintro e w7 ⟨rfl, rfl⟩)

  go_ret
  exact ⟨by simp, hst7.out.wrote.below (Nat.le_refl _) (by simp)⟩
end Go.Proofs.YtodbdojjllabmaaGreatDoor
namespace Go.Proofs.YtodbdojjllabmaaGreatDoor
open Go.RowKit Go.Shelf

def bls (l : List Bool) : List Value := l.map .bool
theorem RowAt.bool {w : World} {a : Option Addr} {n cap : Nat} {l : List Bool} (h : RowAt w a n cap (bls l)) {i : Nat} {x : Bool} (hx : l[i]? = some x) :
    ∃ b off, a = some ⟨b, off, none⟩ ∧ w.cell? ⟨b, off + i, none⟩ = some (.bool x) := by
  have hlt := (List.getElem?_eq_some_iff.1 hx).1
  obtain ⟨b, off, ha, hc⟩ := h.cells i (by have := h.len; simp [bls] at this; omega)
  exact ⟨b, off, ha, hc.trans (by simp [bls, hx])⟩
theorem RowAt.boolAt {w : World} {b off : Nat} {n cap : Nat} {l : List Bool} (h : RowAt w (some ⟨b, off, none⟩) n cap (bls l)) {i : Nat} {x : Bool} (hx : l[i]? = some x) : w.cell? ⟨b, off + i, none⟩ = some (.bool x) := by
  obtain ⟨b', off', ha, hc⟩ := h.bool hx
  cases ha
  exact hc
theorem RowAt.blen {w : World} {a : Option Addr} {n cap : Nat} {l : List Bool} (h : RowAt w a n cap (bls l)) : n = l.length := by have := h.len; simp [bls] at this; omega

theorem tStr (k : Nat) (hk : k < 60) (ch : UInt8) (hch : UInt8.ofNat (65 + k) = ch) (W : World) : (convert 52 9 (.slice (some ⟨W.heap.size, 0, none⟩) 1 1)).run Tryz.prog (W.alloc (.cells #[.int .u8 (65 + (k : Int))] 5)) = .ok (.string ⟨#[ch]⟩) (W.alloc (.cells #[.int .u8 (65 + (k : Int))] 5)) := by
  have h := RowAt.one W (.int .u8 (65 + (k : Int))) 5
  have e : [Value.int .u8 (65 + (k : Int))] = bs [ch] := by
    rw [← hch]
    simp [bs]
    omega
  exact run_str (l := [ch]) (by rw [← e]; exact h)
theorem tMay (qs : List Bool) (win : Int) (k : Nat) (hk : k < 60) (ch : UInt8) (q : Int) (hq : q = 1 ∨ q = 2) : putMay ((tPut qs win k).row [97] [ch] q false) = true := by
  have hc : clientR [99] = true := by kernel_rfl
  have hn : nameR [97] = true := by kernel_rfl
  unfold putMay OS.row tPut
  simp [hc, hn]
  omega
theorem OB.rebase2 {w : World} {B : Nat} {L : Lay} {s : OS} (h : OB w B L s [] []) (hn : L.vp = .slice none 0 0 ∧ L.vc = .slice none 0 0) : OB w w.heap.size L s [] [] := by
  obtain ⟨p, ib, sb, vl, vp, vc, rb, W⟩ := L
  dsimp only at hn
  obtain ⟨rfl, rfl⟩ := hn
  exact OB.rebase (L := ⟨p, ib, sb, vl, .slice none 0 0, .slice none 0 0, rb, W⟩) h (Nat.le_refl _)

/-- What holds at each turn. -/
structure Lp (w wr : World) (p db : Nat) (qs : List Bool) (win : Int) (t sd : Nat) (v : Value) (U : List (Nat × Bool)) (m : Nat) (E : List (Nat × Bool)) (ps : List PackV) (L : Lay) : Prop where
  p : L.p = p
  nil : L.vp = .slice none 0 0 ∧ L.vc = .slice none 0 0
  ob : OB wr wr.heap.size L (tOS qs win U m) [] []
  stp : Stp [] (db :: L.foot) w wr
  box : ∃ c, Blk wr db c 34 ∧ c.size = 2
  dbn : db ∉ L.foot
  wt : WAt wr w.heap.size (db :: L.foot) v ps.length (ps.flatMap PackV.cells)
  pk : PacksOf qs E ps
  ti : TI qs win U m E sd
  few : Few qs t U m E
  len : ps.length ≤ 100 * (t + 1)
theorem DidAt.waits {w w' : World} {L L' : Lay} {s' : OS} {vp vc : Value} {ps : List PackV} {cs : List ChangeV} (d : DidAt w w' L L' s' vp vc ps cs) {B : Nat} (hB : B ≤ w.heap.size) (db : Nat) (hdb : db ∉ blk vp) :
    WAt w' B (db :: L'.foot) vp ps.length (ps.flatMap PackV.cells) := by
  have hf := foot_nil_not d.ob d.nil.1 d.nil.2 d.packs (.inl rfl)
  refine WAt.of_own d.packs hB fun x hx hb => ?_
  rcases List.mem_cons.1 hx with rfl | hx
  · exact hdb hb
  · exact hf x hx hb


theorem Lp.dbge {w wr : World} {p db : Nat} {qs : List Bool} {win : Int} {t sd : Nat} {v : Value} {U : List (Nat × Bool)} {m : Nat} {E : List (Nat × Bool)} {ps : List PackV} {L : Lay} (h : Lp w wr p db qs win t sd v U m E ps L) : w.heap.size ≤ db :=
  (h.stp.sub db (by simp)).elim (fun h => by cases h) id
theorem Lp.below {w wr : World} {p db : Nat} {qs : List Bool} {win : Int} {t sd : Nat} {v : Value} {U : List (Nat × Bool)} {m : Nat} {E : List (Nat × Bool)} {ps : List PackV} {L : Lay} (h : Lp w wr p db qs win t sd v U m E ps L) : Below w.heap.size w wr :=
  h.stp.wrote.below (Nat.le_refl _) (by simp)
/-- What is taken is lost. -/
theorem Lp.lost {w wr w6 : World} {p db : Nat} {qs : List Bool} {win : Int} {t sd : Nat} {v : Value} {U : List (Nat × Bool)} {m : Nat} {E : List (Nat × Bool)} {p0 : PackV} {ps : List PackV} {L : Lay} {e : Nat × Bool} (h : Lp w wr p db qs win t sd v U m (e :: E) (p0 :: ps) L)
    (hb : Below wr.heap.size wr w6) {v2 : Value} {g off cap : Nat} (ht : WAdr wr w.heap.size (db :: L.foot) v2 ps.length (ps.flatMap PackV.cells) g off cap) {sd' : Nat} (hi : TI qs win U m E sd') (hk : t < 300) : Lp w w6 p db qs win (t + 1) sd' v2 U m E ps L := by
  obtain ⟨c, b1, b2⟩ := h.box
  exact ⟨h.p, h.nil, OB.rebase2 (h.ob.below hb) h.nil, h.stp.trans (Stp.below hb), ⟨c, b1.below hb, b2⟩, h.dbn, .inr ⟨g, off, cap, ht.step (Stp.below hb)⟩, h.pk.2, hi, h.few.lost hk, by have := h.len; rw [List.length_cons] at this; omega⟩

/-- A call of the outbox: what it leaves of the frame. -/
structure Cd (w w6 w7 : World) (db : Nat) (L L' : Lay) : Prop where
  box : ∃ c, Blk w7 db c 34 ∧ c.size = 2
  stp : Stp (db :: L.foot) (db :: L'.foot) w6 w7
  all : Stp [] (db :: L'.foot) w w7
  dbn : db ∉ L'.foot
theorem Lp.call {w wr w6 w7 : World} {p db : Nat} {qs : List Bool} {win : Int} {t sd : Nat} {v : Value} {U : List (Nat × Bool)} {m : Nat} {E : List (Nat × Bool)} {ps : List PackV} {L L' : Lay} (h : Lp w wr p db qs win t sd v U m E ps L)
    (hb : Below wr.heap.size wr w6) {s' : OS} {vp vc : Value} {ps' : List PackV} {cs : List ChangeV} (d : DidAt w6 w7 L L' s' vp vc ps' cs) : Cd w w6 w7 db L L' := by
  obtain ⟨c, b1, b2⟩ := h.box
  have b6 := b1.below hb
  have n7 := d.stp.not h.dbn b6.lt
  have s7 : Stp (db :: L.foot) (db :: L'.foot) w6 w7 := ⟨d.stp.wrote.sub (fun x hx => by simp [hx]), fun x hx => by
    rcases List.mem_cons.1 hx with rfl | hx
    · simp
    · rcases d.stp.sub x hx with h1 | h1
      · simp [h1]
      · exact .inr h1⟩
  exact ⟨⟨c, b6.wrote d.stp.wrote h.dbn, b2⟩, s7, (h.stp.trans (Stp.below hb)).trans s7, n7⟩
/-- Behind the store. -/
theorem Lp.done {w wr w6 w7 w8 : World} {p db : Nat} {qs : List Bool} {win : Int} {t sd : Nat} {v : Value} {U : List (Nat × Bool)} {m : Nat} {E : List (Nat × Bool)} {ps : List PackV} {L L' : Lay} (h : Lp w wr p db qs win t sd v U m E ps L)
    (hb : Below wr.heap.size wr w6) {U' : List (Nat × Bool)} {m' : Nat} {vp vc : Value} {ps' : List PackV} {cs : List ChangeV} (d : DidAt w6 w7 L L' (tOS qs win U' m') vp vc ps' cs) {G : List Nat} (hw : Wrote G w7 w8) (hG : ∀ x ∈ G, x ∉ L'.foot ∧ w.heap.size ≤ x) (hbx : ∃ c, Blk w8 db c 34 ∧ c.size = 2) (hT : TzAt w)
    {E' : List (Nat × Bool)} {ps2 : List PackV} {sd' : Nat} {v2 : Value} (hwt : WAt w8 w.heap.size (db :: L'.foot) v2 ps2.length (ps2.flatMap PackV.cells)) (hpk : PacksOf qs E' ps2) (hi : TI qs win U' m' E' sd') (hf : Few qs (t + 1) U' m' E') (hl : ps2.length ≤ 100 * (t + 1 + 1)) :
    Lp w w8 p db qs win (t + 1) sd' v2 U' m' E' ps2 L' := by
  have c := h.call hb d
  have hgg : 0 ∉ G := fun hx => by have := (hG _ hx).2; have := hT.lt; omega
  exact ⟨d.p.trans h.p, d.nil, OB.rebase2 (d.ob.out hw (fun x hx => (hG x hx).1) hgg) d.nil, c.all.fresh hw (fun x hx => (hG x hx).2), hbx, c.dbn, hwt, hpk, hi, hf, hl⟩

theorem chNat {j : Nat} (h : j < 60) {ch : UInt8} (hch : UInt8.ofNat (65 + j) = ch) : (ch.toNat : Int) = 65 + (j : Int) := by
  have : ch.toNat = 65 + j := by rw [← hch, UInt8.toNat_ofNat']; omega
  omega
theorem wrapA (z : Int) (h : 0 ≤ z ∧ z < 200) : wrap64 (65 + z) = 65 + z := by unfold wrap64; omega
theorem wrapB (z : Int) (h : 0 ≤ z ∧ z < 200) : wrap64 (65 + z - 65) = z := by unfold wrap64; omega
theorem wrapAt {j : Nat} (h : j < 60) {ch : UInt8} (hch : UInt8.ofNat (65 + j) = ch) (h0 : 0 < ByteArray.size ⟨#[ch]⟩) : wrap64 (wrap64 (((⟨#[ch]⟩ : ByteArray)[0]'h0).toNat : Int) - 65) = (j : Int) := by
  have e : (((⟨#[ch]⟩ : ByteArray)[0]'h0).toNat : Int) = 65 + (j : Int) := chNat h hch
  obtain ⟨z, hz⟩ : ∃ z : Int, z = (j : Int) := ⟨_, rfl⟩
  rw [e, ← hz, wrapA z (by omega), wrapB z (by omega)]
/-- What 'append' asks for, behind the store. -/
theorem Lp.app {w wr w6 w7 w8 : World} {p db : Nat} {qs : List Bool} {win : Int} {t sd : Nat} {v : Value} {U : List (Nat × Bool)} {m : Nat} {E : List (Nat × Bool)} {p0 : PackV} {ps : List PackV} {L L' : Lay} (h : Lp w wr p db qs win t sd v U m E (p0 :: ps) L)
    (hb : Below wr.heap.size wr w6) {s' : OS} {vp vc : Value} {ps' : List PackV} {cs : List ChangeV} (d : DidAt w6 w7 L L' s' vp vc ps' cs) (hdn : db ∉ blk vp) {c : Array Value} (hb8 : Blk w8 db c 34) (hw8 : Wrote [db] w7 w8)
    {v2 : Value} {g off cap : Nat} (ht : WAdr wr w.heap.size (db :: L.foot) v2 ps.length (ps.flatMap PackV.cells) g off cap) (hk : t ≤ 421) (hl : ps'.length ≤ 100) :
    WAdr w8 w.heap.size (db :: L'.foot) v2 ps.length (ps.flatMap PackV.cells) g off cap ∧ w.heap.size ≤ w8.heap.size ∧ (∀ x ∈ db :: L'.foot, x < w8.heap.size) ∧ w8.ownsRow w6.heap.size 45 24 vp ps'.length (ps'.flatMap PackV.cells) ∧ (∀ u ∈ ps'.flatMap PackV.cells, u.oneCell' = true) ∧ ps.length + ps'.length ≤ 100000 := by
  have c := h.call hb d
  refine ⟨((ht.step (Stp.below hb)).step c.stp).step ⟨hw8.sub (by simp), fun x hx => .inl hx⟩, Nat.le_trans h.below.size (Nat.le_trans hb.size (Nat.le_trans c.stp.size hw8.size)), fun x hx => ?_, not_own d.packs hw8 (fun x hx => by simp at hx; subst hx; exact hdn), fun u hu => ?_, ?_⟩
  · rcases List.mem_cons.1 hx with rfl | hx
    · exact hb8.lt
    · exact Nat.lt_of_lt_of_le (d.ob.lt x hx) hw8.size
  · obtain ⟨y, _, hy⟩ := List.mem_flatMap.1 hu
    exact y.one u hy
  · have := h.len
    simp only [List.length_cons] at this
    omega
end Go.Proofs.YtodbdojjllabmaaGreatDoor
