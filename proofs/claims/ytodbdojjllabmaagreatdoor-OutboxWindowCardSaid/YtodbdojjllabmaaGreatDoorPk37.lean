/- Contracts of package outbox (part 18): Of without rows, New, Len. · The walk of known. -/
import Derived.Test.YtodbdojjllabmaaGreatDoorPk23
import Derived.Test.YtodbdojjllabmaaGreatDoorPk36
namespace Go.Proofs.YtodbdojjllabmaaGreatDoor
open Go.RowKit Go.Shelf

set_option maxRecDepth 100000 in
set_option maxHeartbeats 400000 in
theorem bits_Len64_0 (w : World) : Calls Tryz.prog 112 #[.int .u64 0] w fun e w' => e = .returned (.int .i64 0) ∧ w = w' := by
  go_enter Tryz.func112, Tryz.ntmps112
  go_wp2
  go_ret
  refine ⟨?_, rfl⟩
  kernel_rfl
set_option maxRecDepth 100000 in
set_option maxHeartbeats 400000 in
theorem bits_Len_0 (w : World) : Calls Tryz.prog 55 #[.int .u64 0] w fun e w' => e = .returned (.int .i64 0) ∧ w = w' := by
  have C := hid (bits_Len64_0)
  go_enter Tryz.func55, Tryz.ntmps55
  go_wp2_with (go_at_call 112; refine (C.out _).mono ?_; rintro e w1 ⟨rfl, rfl⟩)
  go_ret
  exact ⟨rfl, rfl⟩
set_option maxRecDepth 100000 in
set_option maxHeartbeats 400000 in
theorem insert_nil (f : Value) (w : World) : Calls Tryz.prog 103 #[.slice none 0 0, .int .i64 0, .int .i64 0, f] w fun e w' => e = .returned (.tuple #[]) ∧ w = w' := by
  go_enter Tryz.func103, Tryz.ntmps103
  go_wp2
  go_loopw [8] (fun i wr => i = .int .i64 1 ∧ w = wr) (fun _ _ => 0)
  case atStart => exact ⟨rfl, rfl⟩
  case round =>
    obtain ⟨rfl, rfl⟩ := hrel
    go_wp2
    go_end0
    exact ⟨rfl, rfl⟩
set_option maxRecDepth 100000 in
set_option maxHeartbeats 1000000 in
theorem pdq_nil (f : Value) (w : World) : Calls Tryz.prog 54 #[.slice none 0 0, .int .i64 0, .int .i64 0, .int .i64 0, f] w fun e w' => e = .returned (.tuple #[]) ∧ w = w' := by
  have C := hid (insert_nil f)
  go_enter Tryz.func54, Tryz.ntmps54
  go_wp2
  go_loopw [1, 2] (fun a b wr => a = .int .i64 0 ∧ b = .int .i64 0 ∧ w = wr) (fun _ _ _ => 0)
  case atStart => exact ⟨rfl, rfl, rfl⟩
  case round =>
    obtain ⟨rfl, rfl, rfl⟩ := hrel
    go_wp2_with (go_at_call 103; refine (C.out _).mono ?_; rintro e w1 ⟨rfl, rfl⟩)
    refine bodyPost_ret (results_none rfl _ _ _) rfl ?_
    exact ⟨rfl, rfl⟩
set_option maxRecDepth 100000 in
set_option maxHeartbeats 400000 in
theorem sort_nil (f : Value) (w : World) : Calls Tryz.prog 28 #[.slice none 0 0, f] w fun e w' => e = .returned (.tuple #[]) ∧ w = w' := by
  have C1 := hid (bits_Len_0)
  have C2 := hid (pdq_nil f)
  go_enter Tryz.func28, Tryz.ntmps28
  go_wp2_with (first
    | (go_at_call 55; refine (C1.out _).mono ?_; rintro e w1 ⟨rfl, rfl⟩)
    | (go_at_call 54; refine (C2.out _).mono ?_; rintro e w1 ⟨rfl, rfl⟩))
  go_end0
  exact ⟨rfl, rfl⟩

theorem wp_genW {P : Program} {code : Code} {Q : Exit → Act → World → Prop} {a : Act} {W : World} (C : World → Prop) (hC : C W) (h : ∀ W', C W' → code.wp P Q a W') : code.wp P Q a W := h W hC

def sessV (client : List UInt8) (seq id : Int) : RowV := ⟨1, client, seq, id, [], [], 0, false, 0⟩

set_option maxRecDepth 100000 in
set_option maxHeartbeats 2000000 in
theorem out_Of (window room : Int) (client : List UInt8) (seq id : Int) (w : World) (hT : TzAt w) (hw : 1 ≤ window ∧ window ≤ 100) (hr : 1 ≤ room ∧ room ≤ 1000) (hs : 0 ≤ seq ∧ seq ≤ 4611686018427387904) (hi : 1 ≤ id ∧ id ≤ 65535) (hc : client.length ≤ 23) (hmay : sessMay (sessV client seq id) = true) :
    Calls Tryz.prog 8 #[.int .i64 window, .int .i64 room, .agg (sessV client seq id).vals, .slice none 0 0] w fun e w' => ∃ L, e = .returned (.tuple #[.pointer (some ⟨L.p, 0, none⟩), .int .i64 0]) ∧
      OB w' w'.heap.size L ⟨client, window, room, seq, id, []⟩ [] [] ∧ (L.vp = .slice none 0 0 ∧ L.vc = .slice none 0 0) ∧ Stp [] L.foot w w' := by
  have CK := hid fun w1 => rec_Check_sess client seq id w1 (by omega)
  rw [show sessMay ⟨1, client, seq, id, [], [], 0, false, 0⟩ = true from hmay] at CK
  have CI := hid fun w1 => in_New 100 w1 (by decide) (by decide)
  have CS := hid (sort_nil (.func (.func 29) #[] #[]))
  clear hmay
  unfold sessV RowV.vals at *
  dsimp only at CK ⊢
  have d1 : decide (window < 1) = false := decide_eq_false (by omega)
  have d2 : decide (100 < window) = false := decide_eq_false (by omega)
  have d3 : decide (room < 1) = false := decide_eq_false (by omega)
  have d4 : decide (1000 < room) = false := decide_eq_false (by omega)
  have d5 : decide (room < 0) = false := decide_eq_false (by omega)
  have d6 : decide (id < 1) = false := decide_eq_false (by omega)
  have d7 : decide (65535 < id) = false := decide_eq_false (by omega)
  go_enter Tryz.func8, Tryz.ntmps8
  go_wp2
  refine wp_scope_straight ?_
  go_wp2_with fail
  refine (CI.out _).mono ?_
  rintro e w1 ⟨rfl, hin, hb1⟩
  simp only [World.size_alloc] at hin hb1 ⊢
  have hS1 := (Blk.new w #[.int .i64 1, .string ⟨client.toArray⟩, .int .i64 seq, .int .i64 id, .string ⟨#[]⟩, .string ⟨#[]⟩, .int .i64 0, .bool false, .int .i64 0] 30).below (by simpa using hb1)
  have s0 : w1.cell? ⟨w.heap.size, 0, none⟩ = some (.int .i64 1) := hS1.cell 0
  have s1 : w1.cell? ⟨w.heap.size, 1, none⟩ = some (.string ⟨client.toArray⟩) := hS1.cell 1
  have s2 : w1.cell? ⟨w.heap.size, 2, none⟩ = some (.int .i64 seq) := hS1.cell 2
  have s3 : w1.cell? ⟨w.heap.size, 3, none⟩ = some (.int .i64 id) := hS1.cell 3
  have s4 : w1.cell? ⟨w.heap.size, 4, none⟩ = some (.string ⟨#[]⟩) := hS1.cell 4
  have s5 : w1.cell? ⟨w.heap.size, 5, none⟩ = some (.string ⟨#[]⟩) := hS1.cell 5
  have s6 : w1.cell? ⟨w.heap.size, 6, none⟩ = some (.int .i64 0) := hS1.cell 6
  have s7 : w1.cell? ⟨w.heap.size, 7, none⟩ = some (.bool false) := hS1.cell 7
  have s8 : w1.cell? ⟨w.heap.size, 8, none⟩ = some (.int .i64 0) := hS1.cell 8
  have hin := hid hin
  go_wp2_with fail
  refine (CK.out _).mono ?_
  rintro e w2 ⟨rfl, hb2⟩
  clear s0 s1 s2 s3 s4 s5 s6 s7 s8
  have hS2 := hS1.below hb2
  have t1 : w2.cell? ⟨w.heap.size, 1, none⟩ = some (.string ⟨client.toArray⟩) := hS2.cell 1
  have t2 : w2.cell? ⟨w.heap.size, 2, none⟩ = some (.int .i64 seq) := hS2.cell 2
  have t3 : w2.cell? ⟨w.heap.size, 3, none⟩ = some (.int .i64 id) := hS2.cell 3
  go_wp2_with fail
  have hin2 := hid (hin.out.below hb2)
  have hB02 := hid (((Below.refl _ w).alloc (Nat.le_refl _) (.cells #[.int .i64 1, .string ⟨client.toArray⟩, .int .i64 seq, .int .i64 id, .string ⟨#[]⟩, .string ⟨#[]⟩, .int .i64 0, .bool false, .int .i64 0] 30)).trans ((hb1.mono (by omega)).trans (hb2.mono (by have := hb1.size; simp at this; omega))))
  have hz2 : w.heap.size + 3 ≤ w2.heap.size := by have := hin2.out.box.lt; omega
  refine wp_genW (fun W' => Below w2.heap.size w2 W' ∧ Blk W' w2.heap.size #[.pointer (some ⟨w.heap.size + 1 + 1, 0, none⟩), .string ⟨client.toArray⟩, .int .i64 window, .int .i64 room, .int .i64 seq, .int .i64 id, .slice none 0 0, .slice none 0 0, .slice none 0 0] 77) ⟨(Below.refl _ w2).alloc (Nat.le_refl _) _, Blk.new w2 _ _⟩ ?_
  rintro w3 ⟨hb3, hbox3⟩
  have k6 : w3.cell? ⟨w2.heap.size, 6, none⟩ = some (.slice none 0 0) := hbox3.cell 6
  go_loopw [73] (fun i wr => i = .int .i64 0 ∧ w3 = wr) (fun _ _ => 0)
  case atStart => exact ⟨rfl, rfl⟩
  case round =>
    obtain ⟨rfl, rfl⟩ := hrel
    go_wp2_with (go_at_call 28; refine (CS.out _).mono ?_; rintro e w4 ⟨rfl, rfl⟩)
    go_loopw [17] (fun i wr => i = .int .i64 1 ∧ w3 = wr) (fun _ _ => 0)
    case atStart => exact ⟨rfl, rfl⟩
    case round =>
      obtain ⟨rfl, rfl⟩ := hrel
      go_wp2
      simp only [Exit.noGoto_ret]
      go_returns
      have hB03 := hB02.out.trans (hb3.mono hB02.out.size)
      have hg := hT.lt
      refine ⟨⟨w2.heap.size, w.heap.size + 1 + 1, w.heap.size + 1, .slice none 0 0, .slice none 0 0, .slice none 0 0, [], fun _ => 0⟩, rfl, ⟨Nat.le_refl _, hbox3, hin2.out.below hb3, SetIs.nil, World.ownsRow_nil _ _ _ _, rfl, fun i b r h1 h2 => by simp at h1, List.nodup_nil, World.ownsRow_nil _ _ _ _, World.ownsRow_nil _ _ _ _, hT.below hB03, ?_, ?_⟩, ⟨rfl, rfl⟩, Wrote.of_below hB03, ?_⟩
      · simp [Lay.foot, blk, Value.ownBlock]; omega
      · exact ⟨hw, ⟨hr.2, by simp; omega⟩, ⟨hs.1, Int.le_trans hs.2 (by decide)⟩, hi, hc, fun r hr => by simp at hr, by simp [idsOf], by simp [idsOf]; omega⟩
      · intro x hx
        simp [Lay.foot, blk, Value.ownBlock] at hx
        right
        omega

set_option maxRecDepth 100000 in
set_option maxHeartbeats 400000 in
theorem out_New (window room : Int) (client : List UInt8) (w : World) (hT : TzAt w) (hw : 1 ≤ window ∧ window ≤ 100) (hr : 1 ≤ room ∧ room ≤ 1000) (hc : client.length ≤ 23) (hmay : sessMay (sessV client 0 1) = true) :
    Calls Tryz.prog 14 #[.string ⟨client.toArray⟩, .int .i64 window, .int .i64 room] w fun e w' => ∃ L, e = .returned (.tuple #[.pointer (some ⟨L.p, 0, none⟩), .int .i64 0]) ∧
      OB w' w'.heap.size L ⟨client, window, room, 0, 1, []⟩ [] [] ∧ (L.vp = .slice none 0 0 ∧ L.vc = .slice none 0 0) ∧ Stp [] L.foot w w' := by
  have CO := hid (out_Of window room client 0 1 w hT hw hr (by omega) (by omega) hc hmay)
  clear hmay
  unfold sessV RowV.vals at CO
  go_enter Tryz.func14, Tryz.ntmps14
  go_wp2_with (go_at_call 8; refine CO.out.mono ?_; rintro e w1 ⟨L, rfl, hO, hn, hS⟩)
  go_returns
  exact ⟨L, rfl, hO, hn, hS⟩

set_option maxRecDepth 100000 in
set_option maxHeartbeats 400000 in
theorem out_Len {w : World} {B : Nat} {L : Lay} {s : OS} {ps : List PackV} {cs : List ChangeV} (h : OB w B L s ps cs) :
    Calls Tryz.prog 12 #[.pointer (some ⟨L.p, 0, none⟩)] w fun e w' => e = .returned (.int .i64 s.l.length) ∧ w = w' := by
  have CN := hid (out_none h)
  obtain ⟨a, cap, hv, -⟩ := own_cell h.rows
  have k6 : w.cell? ⟨L.p, 6, none⟩ = some (.slice a s.l.length cap) := (h.box.cell 6).trans (by simp [boxCells, hv])
  go_enter Tryz.func12, Tryz.ntmps12
  go_wp2_with (go_at_call 31; refine CN.out.mono ?_; rintro e w1 ⟨rfl, rfl⟩)
  go_ret
  exact ⟨rfl, rfl⟩
end Go.Proofs.YtodbdojjllabmaaGreatDoor
namespace Go.Proofs.YtodbdojjllabmaaGreatDoor
open Go.RowKit Go.Shelf

def kS0 : OS := ⟨[99], 1, 5, 0, 1, []⟩
def kS1 : OS := kS0.put (kS0.row [97] [120] 1 false)
def kS2 : OS := kS1.put (kS1.row [97] [121] 2 false)
def kX3 : SS := kS2.start.all.fin kS2.seq kS2.id
def kX4 : SS := (kX3.s.start.ack 1).all.fin kX3.s.seq kX3.s.id
def kX5 : SS := (kX4.s.start.rec' 2).all.fin kX4.s.seq kX4.s.id
def kX6 : SS := (kX5.s.start.comp 2).all.fin kX5.s.seq kX5.s.id
theorem kM0 : sessMay (sessV [99] 0 1) = true := by kernel_rfl
theorem kM1 : putMay (kS0.row [97] [120] 1 false) = true := by kernel_rfl
theorem kM2 : putMay (kS1.row [97] [121] 2 false) = true := by kernel_rfl
theorem kP3 : kX3.ps = [⟨3, false, false, 1, [97], [120], 1⟩] := by kernel_rfl
theorem kP4 : kX4.ps = [⟨3, false, false, 2, [97], [121], 2⟩] := by kernel_rfl
theorem kP5 : kX5.ps = [pubrel 2] := by kernel_rfl
theorem kP6 : kX6.s.l = [] := by kernel_rfl


/-- A block that no outbox writes. -/
structure Kept (w : World) (F : List Nat) (b : Nat) (cs : Array Value) (T : TypeId) : Prop where
  blk : Blk w b cs T
  out : b ∉ F
theorem Kept.step {w w' : World} {F F' : List Nat} {b : Nat} {cs : Array Value} {T : TypeId} (h : Kept w F b cs T) (s : Stp F F' w w') : Kept w' F' b cs T := ⟨h.blk.wrote s.wrote h.out, s.not h.out h.blk.lt⟩
theorem Kept.alloc {w : World} {F : List Nat} {b : Nat} {cs : Array Value} {T : TypeId} (h : Kept w F b cs T) (o : Obj) : Kept (w.alloc o) F b cs T := ⟨h.blk.alloc o, h.out⟩
theorem Kept.box {w : World} {B : Nat} {L : Lay} {s : OS} {ps : List PackV} {cs : List ChangeV} (h : OB w B L s ps cs) (c : Array Value) (T : TypeId) : Kept (w.alloc (.cells c T)) L.foot w.heap.size c T := ⟨Blk.new w c T, fun hx => by have := h.lt _ hx; omega⟩
theorem DidAt.arr {w w' : World} {L L' : Lay} {s' : OS} {vp vc : Value} {cs : List ChangeV} {x : PackV} (d : DidAt w w' L L' s' vp vc [x] cs) : ∃ (g cap : Nat) (cur : Array Value), vp = .slice (some ⟨g, 0, none⟩) 1 cap ∧ Kept w' L'.foot g cur 45 ∧ (∀ (j : Nat) (v : Value), x.cells[j]? = some v → cur[j]? = some v) := by
  have hp := d.packs
  have hf := foot_nil_not d.ob d.nil.1 d.nil.2 hp (.inl rfl)
  obtain ⟨hl, ⟨rfl, h0⟩ | ⟨g, cap, cur, rfl, _, hg, _, _, _, ht⟩⟩ := hp
  · simp at h0
  · refine ⟨g, cap, cur, rfl, ⟨hg, fun hx => hf g hx (by simp [YtodbdojjllabmaaGreatDoor.blk, Value.ownBlock])⟩, fun j v hj => ?_⟩
    have hlt := (List.getElem?_eq_some_iff.1 hj).1
    have h24 : x.cells.length = 24 := rfl
    have e : ([x] : List PackV).flatMap PackV.cells = x.cells := by simp
    rw [e] at ht
    rw [← ht, List.getElem?_take_of_lt (by simp; omega)] at hj
    simpa using hj
theorem asc (c : UInt8) (h : c.toNat < 128) : AnyOK [c] := anyOK_ascii [c] (by simp) (fun j b hb => by
  cases j with
  | zero => simp at hb; subst hb; exact h
  | succ j => simp at hb)

set_option maxRecDepth 100000 in
set_option maxHeartbeats 4000000 in
theorem known_holds (w : World) (hT : TzAt w) : Calls Tryz.prog 13 #[] w fun e w' => e = .returned (.bool true) ∧ Below w.heap.size w w' := by
  have CN := hid (out_New 1 5 [99] w hT (by decide) (by decide) (by decide) kM0)
  go_enter Tryz.func13, Tryz.ntmps13
  go_wp2_with fail
  refine CN.out.mono ?_
  rintro e w0 ⟨L0, rfl, hO0, hn0, hS0⟩
  have hO0 := hid hO0
  go_wp2_with fail
  refine (out_Put hO0.out hn0 [97] [120] 1 false (by decide) (asc 97 (by decide)) kM1 (by decide) (by decide)).mono ?_
  rintro e w1 ⟨vp1, vc1, L1, rfl, d1⟩
  obtain ⟨ap1, cp1, rfl⟩ := own_slice d1.packs
  obtain ⟨ac1, cc1, rfl⟩ := own_slice d1.chgs
  have hp1 := d1.p
  have D1 := hid d1
  clear d1
  rw [← hp1]
  clear hp1
  have N1 := D1.out.nil
  go_wp2_with fail
  have A1 := hid (Kept.box D1.out.ob #[.slice ap1 0 cp1, .slice ac1 2 cc1] 34)
  have O1 : Hid (OB _ _ L1 kS1 [] []) := hid (D1.out.ob.alloc (.cells #[.slice ap1 0 cp1, .slice ac1 2 cc1] 34))
  refine (out_Put O1.out N1 [97] [121] 2 false (by decide) (asc 97 (by decide)) kM2 (by decide) (by decide)).mono ?_
  rintro e w2 ⟨vp2, vc2, L2, rfl, d2⟩
  obtain ⟨ap2, cp2, rfl⟩ := own_slice d2.packs
  obtain ⟨ac2, cc2, rfl⟩ := own_slice d2.chgs
  have hp2 := d2.p
  have D2 : Hid (DidAt _ w2 L1 L2 kS2 _ _ _ _) := hid d2
  clear d2
  rw [← hp2]
  clear hp2 O1
  have A2 := hid (A1.out.step D2.out.stp)
  have N2 := D2.out.nil
  go_wp2_with fail
  have O2 : Hid (OB _ _ L2 kS2 [] []) := hid (D2.out.ob.alloc (.cells #[.slice ap2 0 cp2, .slice ac2 2 cc2] 34))
  have A2' := hid (A2.out.alloc (.cells #[.slice ap2 0 cp2, .slice ac2 2 cc2] 34))
  clear A1 A2
  refine (out_Send O2.out N2).mono ?_
  rintro e w3 ⟨vp3, vc3, L3, rfl, d3⟩
  have D3 : Hid (DidAt _ w3 L2 L3 kX3.s vp3 vc3 kX3.ps kX3.cs) := hid d3
  clear d3
  rw [kP3] at D3
  obtain ⟨g3, cp3, cur3, rfl, B3, h3⟩ := D3.out.arr
  have H3 := hid h3
  obtain ⟨ac3, cc3, rfl⟩ := own_slice D3.out.chgs
  have hp3 := D3.out.p
  rw [← hp3]
  clear hp3 O2 h3
  have A3 := hid (A2'.out.step D3.out.stp)
  have N3 := D3.out.nil
  generalize kX3.cs.length = n3 at *
  go_wp2_with fail
  have O3 : Hid (OB _ _ L3 kX3.s [] []) := hid (D3.out.ob.alloc (.cells #[.slice (some ⟨g3, 0, none⟩) 1 cp3, .slice ac3 n3 cc3] 34))
  have A3' := hid (A3.out.alloc (.cells #[.slice (some ⟨g3, 0, none⟩) 1 cp3, .slice ac3 n3 cc3] 34))
  have B3' := hid (B3.alloc (.cells #[.slice (some ⟨g3, 0, none⟩) 1 cp3, .slice ac3 n3 cc3] 34))
  have C3' := hid (Kept.box D3.out.ob #[.slice (some ⟨g3, 0, none⟩) 1 cp3, .slice ac3 n3 cc3] 34)
  clear A2' A3 B3
  refine (out_Hear4 O3.out N3 1 (by decide)).mono ?_
  rintro e w4 ⟨vp4, vc4, L4, rfl, d4⟩
  have D4 : Hid (DidAt _ w4 L3 L4 kX4.s vp4 vc4 kX4.ps kX4.cs) := hid d4
  clear d4
  rw [kP4] at D4
  obtain ⟨g4, cp4, cur4, rfl, B4, h4⟩ := D4.out.arr
  have H4 := hid h4
  clear h4
  obtain ⟨ac4, cc4, rfl⟩ := own_slice D4.out.chgs
  have hp4 := D4.out.p
  rw [← hp4]
  clear hp4 O3
  have A3s4 := hid (A3'.out.step D4.out.stp)
  have B3s4 := hid (B3'.out.step D4.out.stp)
  have C3s4 := hid (C3'.out.step D4.out.stp)
  have N4 := D4.out.nil
  generalize kX4.cs.length = n4 at *
  go_wp2_with fail
  have O4 : Hid (OB _ _ L4 kX4.s [] []) := hid (D4.out.ob.alloc (.cells #[.slice (some ⟨g4, 0, none⟩) 1 cp4, .slice ac4 n4 cc4] 34))
  have A3t4 := hid (A3s4.out.alloc (.cells #[.slice (some ⟨g4, 0, none⟩) 1 cp4, .slice ac4 n4 cc4] 34))
  have B3t4 := hid (B3s4.out.alloc (.cells #[.slice (some ⟨g4, 0, none⟩) 1 cp4, .slice ac4 n4 cc4] 34))
  have C3t4 := hid (C3s4.out.alloc (.cells #[.slice (some ⟨g4, 0, none⟩) 1 cp4, .slice ac4 n4 cc4] 34))
  have B4' := hid (B4.alloc (.cells #[.slice (some ⟨g4, 0, none⟩) 1 cp4, .slice ac4 n4 cc4] 34))
  have C4' := hid (Kept.box D4.out.ob #[.slice (some ⟨g4, 0, none⟩) 1 cp4, .slice ac4 n4 cc4] 34)
  clear A3' B3' C3' A3s4 B3s4 C3s4 B4
  refine (out_Hear5 O4.out N4 2 (by decide)).mono ?_
  rintro e w5 ⟨vp5, vc5, L5, rfl, d5⟩
  have D5 : Hid (DidAt _ w5 L4 L5 kX5.s vp5 vc5 kX5.ps kX5.cs) := hid d5
  clear d5
  rw [kP5] at D5
  obtain ⟨g5, cp5, cur5, rfl, B5, h5⟩ := D5.out.arr
  have H5 := hid h5
  clear h5
  obtain ⟨ac5, cc5, rfl⟩ := own_slice D5.out.chgs
  have hp5 := D5.out.p
  rw [← hp5]
  clear hp5 O4
  have A3s5 := hid (A3t4.out.step D5.out.stp)
  have B3s5 := hid (B3t4.out.step D5.out.stp)
  have C3s5 := hid (C3t4.out.step D5.out.stp)
  have B4s5 := hid (B4'.out.step D5.out.stp)
  have C4s5 := hid (C4'.out.step D5.out.stp)
  have N5 := D5.out.nil
  generalize kX5.cs.length = n5 at *
  go_wp2_with fail
  have O5 : Hid (OB _ _ L5 kX5.s [] []) := hid (D5.out.ob.alloc (.cells #[.slice (some ⟨g5, 0, none⟩) 1 cp5, .slice ac5 n5 cc5] 34))
  have A3t5 := hid (A3s5.out.alloc (.cells #[.slice (some ⟨g5, 0, none⟩) 1 cp5, .slice ac5 n5 cc5] 34))
  have B3t5 := hid (B3s5.out.alloc (.cells #[.slice (some ⟨g5, 0, none⟩) 1 cp5, .slice ac5 n5 cc5] 34))
  have C3t5 := hid (C3s5.out.alloc (.cells #[.slice (some ⟨g5, 0, none⟩) 1 cp5, .slice ac5 n5 cc5] 34))
  have B4t5 := hid (B4s5.out.alloc (.cells #[.slice (some ⟨g5, 0, none⟩) 1 cp5, .slice ac5 n5 cc5] 34))
  have C4t5 := hid (C4s5.out.alloc (.cells #[.slice (some ⟨g5, 0, none⟩) 1 cp5, .slice ac5 n5 cc5] 34))
  have B5' := hid (B5.alloc (.cells #[.slice (some ⟨g5, 0, none⟩) 1 cp5, .slice ac5 n5 cc5] 34))
  have C5' := hid (Kept.box D5.out.ob #[.slice (some ⟨g5, 0, none⟩) 1 cp5, .slice ac5 n5 cc5] 34)
  clear A3t4 B3t4 C3t4 B4' C4' A3s5 B3s5 C3s5 B4s5 C4s5 B5
  refine (out_Hear7 O5.out N5 2 (by decide)).mono ?_
  rintro e w6 ⟨vp6, vc6, L6, rfl, d6⟩
  have D6 : Hid (DidAt _ w6 L5 L6 kX6.s vp6 vc6 kX6.ps kX6.cs) := hid d6
  clear d6
  obtain ⟨ap6, cp6, rfl⟩ := own_slice D6.out.packs
  obtain ⟨ac6, cc6, rfl⟩ := own_slice D6.out.chgs
  have hp6 := D6.out.p
  rw [← hp6]
  clear hp6 O5
  have A3s6 := hid (A3t5.out.step D6.out.stp)
  have B3s6 := hid (B3t5.out.step D6.out.stp)
  have C3s6 := hid (C3t5.out.step D6.out.stp)
  have B4s6 := hid (B4t5.out.step D6.out.stp)
  have C4s6 := hid (C4t5.out.step D6.out.stp)
  have B5s6 := hid (B5'.out.step D6.out.stp)
  have C5s6 := hid (C5'.out.step D6.out.stp)
  have N6 := D6.out.nil
  generalize kX6.cs.length = n6 at *
  generalize kX6.ps.length = m6 at *
  have O6 : Hid (OB _ _ L6 kX6.s [] []) := hid (D6.out.ob.alloc (.cells #[.slice ap6 m6 cp6, .slice ac6 n6 cc6] 34))
  have A3t6 := hid (A3s6.out.alloc (.cells #[.slice ap6 m6 cp6, .slice ac6 n6 cc6] 34))
  have B3t6 := hid (B3s6.out.alloc (.cells #[.slice ap6 m6 cp6, .slice ac6 n6 cc6] 34))
  have C3t6 := hid (C3s6.out.alloc (.cells #[.slice ap6 m6 cp6, .slice ac6 n6 cc6] 34))
  have B4t6 := hid (B4s6.out.alloc (.cells #[.slice ap6 m6 cp6, .slice ac6 n6 cc6] 34))
  have C4t6 := hid (C4s6.out.alloc (.cells #[.slice ap6 m6 cp6, .slice ac6 n6 cc6] 34))
  have B5t6 := hid (B5s6.out.alloc (.cells #[.slice ap6 m6 cp6, .slice ac6 n6 cc6] 34))
  have C5t6 := hid (C5s6.out.alloc (.cells #[.slice ap6 m6 cp6, .slice ac6 n6 cc6] 34))
  clear A3t5 B3t5 C3t5 B4t5 C4t5 B5' C5' A3s6 B3s6 C3s6 B4s6 C4s6 B5s6 C5s6
  have CL := hid (out_Len O6.out)
  rw [kP6] at CL
  have a1 : (w6.alloc (.cells #[.slice ap6 m6 cp6, .slice ac6 n6 cc6] 34)).cell? ⟨w1.heap.size, 1, none⟩ = some (.slice ac1 2 cc1) := A3t6.out.blk.cell 1
  have c30 : (w6.alloc (.cells #[.slice ap6 m6 cp6, .slice ac6 n6 cc6] 34)).cell? ⟨w3.heap.size, 0, none⟩ = some (.slice (some ⟨g3, 0, none⟩) 1 cp3) := C3t6.out.blk.cell 0
  have c40 : (w6.alloc (.cells #[.slice ap6 m6 cp6, .slice ac6 n6 cc6] 34)).cell? ⟨w4.heap.size, 0, none⟩ = some (.slice (some ⟨g4, 0, none⟩) 1 cp4) := C4t6.out.blk.cell 0
  have c50 : (w6.alloc (.cells #[.slice ap6 m6 cp6, .slice ac6 n6 cc6] 34)).cell? ⟨w5.heap.size, 0, none⟩ = some (.slice (some ⟨g5, 0, none⟩) 1 cp5) := C5t6.out.blk.cell 0
  have b35 : (w6.alloc (.cells #[.slice ap6 m6 cp6, .slice ac6 n6 cc6] 34)).cell? ⟨g3, 5, none⟩ = some (.string ⟨#[120]⟩) := (B3t6.out.blk.cell 5).trans (H3.out 5 _ rfl)
  have b36 : (w6.alloc (.cells #[.slice ap6 m6 cp6, .slice ac6 n6 cc6] 34)).cell? ⟨g3, 6, none⟩ = some (.int .i64 1) := (B3t6.out.blk.cell 6).trans (H3.out 6 _ rfl)
  have b45 : (w6.alloc (.cells #[.slice ap6 m6 cp6, .slice ac6 n6 cc6] 34)).cell? ⟨g4, 5, none⟩ = some (.string ⟨#[121]⟩) := (B4t6.out.blk.cell 5).trans (H4.out 5 _ rfl)
  have b46 : (w6.alloc (.cells #[.slice ap6 m6 cp6, .slice ac6 n6 cc6] 34)).cell? ⟨g4, 6, none⟩ = some (.int .i64 2) := (B4t6.out.blk.cell 6).trans (H4.out 6 _ rfl)
  have b50 : (w6.alloc (.cells #[.slice ap6 m6 cp6, .slice ac6 n6 cc6] 34)).cell? ⟨g5, 0, none⟩ = some (.int .i64 6) := (B5t6.out.blk.cell 0).trans (H5.out 0 _ rfl)
  have hst6 := hid (((((((hS0.trans D1.out.stp).trans (Stp.below ((Below.refl _ _).alloc (Nat.le_refl _) _))).trans D2.out.stp).trans (Stp.below ((Below.refl _ _).alloc (Nat.le_refl _) _))).trans D3.out.stp).trans (Stp.below ((Below.refl _ _).alloc (Nat.le_refl _) _))).trans D4.out.stp)
  have hst7 := hid (((((hst6.out.trans (Stp.below ((Below.refl _ _).alloc (Nat.le_refl _) _))).trans D5.out.stp).trans (Stp.below ((Below.refl _ _).alloc (Nat.le_refl _) _))).trans D6.out.stp).trans (Stp.below ((Below.refl _ _).alloc (Nat.le_refl _) (.cells #[.slice ap6 m6 cp6, .slice ac6 n6 cc6] 34))))
  clear A3t6 B3t6 C3t6 B4t6 C4t6 B5t6 C5t6
  go_wp2_with (go_at_call 12; refine CL.out.mono ?_; rintro e w7 ⟨rfl, rfl⟩)

  go_ret
  exact ⟨by simp, hst7.out.wrote.below (Nat.le_refl _) (by simp)⟩
end Go.Proofs.YtodbdojjllabmaaGreatDoor
