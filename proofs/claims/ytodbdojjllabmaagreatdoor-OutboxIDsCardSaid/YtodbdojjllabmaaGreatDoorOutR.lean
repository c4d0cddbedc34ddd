/- Contracts of package outbox (part 18): Of without rows, New, Len. -/
import Derived.Test.YtodbdojjllabmaaGreatDoorOutQ
import Derived.Test.YtodbdojjllabmaaGreatDoorRecF
namespace Go.Proofs.YtodbdojjllabmaaGreatDoor
open Go.RowKit Go.Shelf

set_option maxRecDepth 100000 in
set_option maxHeartbeats 400000 in
theorem bits_Len64_0 (w : World) : Calls Tryz.prog 112 #[.int .u64 0] w fun e w' => e = .returned (.int .i64 0) ∧ w = w' := by
  go_enter Tryz.func112, Tryz.ntmps112
  go_wp2
  go_ret
  refine ⟨?_, rfl⟩
  kernel_rfl
set_option maxRecDepth 100000 in
set_option maxHeartbeats 400000 in
theorem bits_Len_0 (w : World) : Calls Tryz.prog 55 #[.int .u64 0] w fun e w' => e = .returned (.int .i64 0) ∧ w = w' := by
  have C := hid (bits_Len64_0)
  go_enter Tryz.func55, Tryz.ntmps55
  go_wp2_with (go_at_call 112; refine (C.out _).mono ?_; rintro e w1 ⟨rfl, rfl⟩)
  go_ret
  exact ⟨rfl, rfl⟩
set_option maxRecDepth 100000 in
set_option maxHeartbeats 400000 in
theorem insert_nil (f : Value) (w : World) : Calls Tryz.prog 103 #[.slice none 0 0, .int .i64 0, .int .i64 0, f] w fun e w' => e = .returned (.tuple #[]) ∧ w = w' := by
  go_enter Tryz.func103, Tryz.ntmps103
  go_wp2
  go_loopw [8] (fun i wr => i = .int .i64 1 ∧ w = wr) (fun _ _ => 0)
  case atStart => exact ⟨rfl, rfl⟩
  case round =>
    obtain ⟨rfl, rfl⟩ := hrel
    go_wp2
    go_end0
    exact ⟨rfl, rfl⟩
set_option maxRecDepth 100000 in
set_option maxHeartbeats 1000000 in
theorem pdq_nil (f : Value) (w : World) : Calls Tryz.prog 54 #[.slice none 0 0, .int .i64 0, .int .i64 0, .int .i64 0, f] w fun e w' => e = .returned (.tuple #[]) ∧ w = w' := by
  have C := hid (insert_nil f)
  go_enter Tryz.func54, Tryz.ntmps54
  go_wp2
  go_loopw [1, 2] (fun a b wr => a = .int .i64 0 ∧ b = .int .i64 0 ∧ w = wr) (fun _ _ _ => 0)
  case atStart => exact ⟨rfl, rfl, rfl⟩
  case round =>
    obtain ⟨rfl, rfl, rfl⟩ := hrel
    go_wp2_with (go_at_call 103; refine (C.out _).mono ?_; rintro e w1 ⟨rfl, rfl⟩)
    refine bodyPost_ret (results_none rfl _ _ _) rfl ?_
    exact ⟨rfl, rfl⟩
set_option maxRecDepth 100000 in
set_option maxHeartbeats 400000 in
theorem sort_nil (f : Value) (w : World) : Calls Tryz.prog 28 #[.slice none 0 0, f] w fun e w' => e = .returned (.tuple #[]) ∧ w = w' := by
  have C1 := hid (bits_Len_0)
  have C2 := hid (pdq_nil f)
  go_enter Tryz.func28, Tryz.ntmps28
  go_wp2_with (first
    | (go_at_call 55; refine (C1.out _).mono ?_; rintro e w1 ⟨rfl, rfl⟩)
    | (go_at_call 54; refine (C2.out _).mono ?_; rintro e w1 ⟨rfl, rfl⟩))
  go_end0
  exact ⟨rfl, rfl⟩

theorem wp_genW {P : Program} {code : Code} {Q : Exit → Act → World → Prop} {a : Act} {W : World} (C : World → Prop) (hC : C W) (h : ∀ W', C W' → code.wp P Q a W') : code.wp P Q a W := h W hC

def sessV (client : List UInt8) (seq id : Int) : RowV := ⟨1, client, seq, id, [], [], 0, false, 0⟩

set_option maxRecDepth 100000 in
set_option maxHeartbeats 2000000 in
theorem out_Of (window room : Int) (client : List UInt8) (seq id : Int) (w : World) (hT : TzAt w) (hw : 1 ≤ window ∧ window ≤ 100) (hr : 1 ≤ room ∧ room ≤ 1000) (hs : 0 ≤ seq ∧ seq ≤ 4611686018427387904) (hi : 1 ≤ id ∧ id ≤ 65535) (hc : client.length ≤ 23) (hmay : sessMay (sessV client seq id) = true) :
    Calls Tryz.prog 8 #[.int .i64 window, .int .i64 room, .agg (sessV client seq id).vals, .slice none 0 0] w fun e w' => ∃ L, e = .returned (.tuple #[.pointer (some ⟨L.p, 0, none⟩), .int .i64 0]) ∧
      OB w' w'.heap.size L ⟨client, window, room, seq, id, []⟩ [] [] ∧ (L.vp = .slice none 0 0 ∧ L.vc = .slice none 0 0) ∧ Stp [] L.foot w w' := by
  have CK := hid fun w1 => rec_Check_sess client seq id w1 (by omega)
  rw [show sessMay ⟨1, client, seq, id, [], [], 0, false, 0⟩ = true from hmay] at CK
  have CI := hid fun w1 => in_New 100 w1 (by decide) (by decide)
  have CS := hid (sort_nil (.func (.func 29) #[] #[]))
  clear hmay
  unfold sessV RowV.vals at *
  dsimp only at CK ⊢
  have d1 : decide (window < 1) = false := decide_eq_false (by omega)
  have d2 : decide (100 < window) = false := decide_eq_false (by omega)
  have d3 : decide (room < 1) = false := decide_eq_false (by omega)
  have d4 : decide (1000 < room) = false := decide_eq_false (by omega)
  have d5 : decide (room < 0) = false := decide_eq_false (by omega)
  have d6 : decide (id < 1) = false := decide_eq_false (by omega)
  have d7 : decide (65535 < id) = false := decide_eq_false (by omega)
  go_enter Tryz.func8, Tryz.ntmps8
  go_wp2
  refine wp_scope_straight ?_
  go_wp2_with fail
  refine (CI.out _).mono ?_
  rintro e w1 ⟨rfl, hin, hb1⟩
  simp only [World.size_alloc] at hin hb1 ⊢
  have hS1 := (Blk.new w #[.int .i64 1, .string ⟨client.toArray⟩, .int .i64 seq, .int .i64 id, .string ⟨#[]⟩, .string ⟨#[]⟩, .int .i64 0, .bool false, .int .i64 0] 30).below (by simpa using hb1)
  have s0 : w1.cell? ⟨w.heap.size, 0, none⟩ = some (.int .i64 1) := hS1.cell 0
  have s1 : w1.cell? ⟨w.heap.size, 1, none⟩ = some (.string ⟨client.toArray⟩) := hS1.cell 1
  have s2 : w1.cell? ⟨w.heap.size, 2, none⟩ = some (.int .i64 seq) := hS1.cell 2
  have s3 : w1.cell? ⟨w.heap.size, 3, none⟩ = some (.int .i64 id) := hS1.cell 3
  have s4 : w1.cell? ⟨w.heap.size, 4, none⟩ = some (.string ⟨#[]⟩) := hS1.cell 4
  have s5 : w1.cell? ⟨w.heap.size, 5, none⟩ = some (.string ⟨#[]⟩) := hS1.cell 5
  have s6 : w1.cell? ⟨w.heap.size, 6, none⟩ = some (.int .i64 0) := hS1.cell 6
  have s7 : w1.cell? ⟨w.heap.size, 7, none⟩ = some (.bool false) := hS1.cell 7
  have s8 : w1.cell? ⟨w.heap.size, 8, none⟩ = some (.int .i64 0) := hS1.cell 8
  have hin := hid hin
  go_wp2_with fail
  refine (CK.out _).mono ?_
  rintro e w2 ⟨rfl, hb2⟩
  clear s0 s1 s2 s3 s4 s5 s6 s7 s8
  have hS2 := hS1.below hb2
  have t1 : w2.cell? ⟨w.heap.size, 1, none⟩ = some (.string ⟨client.toArray⟩) := hS2.cell 1
  have t2 : w2.cell? ⟨w.heap.size, 2, none⟩ = some (.int .i64 seq) := hS2.cell 2
  have t3 : w2.cell? ⟨w.heap.size, 3, none⟩ = some (.int .i64 id) := hS2.cell 3
  go_wp2_with fail
  have hin2 := hid (hin.out.below hb2)
  have hB02 := hid (((Below.refl _ w).alloc (Nat.le_refl _) (.cells #[.int .i64 1, .string ⟨client.toArray⟩, .int .i64 seq, .int .i64 id, .string ⟨#[]⟩, .string ⟨#[]⟩, .int .i64 0, .bool false, .int .i64 0] 30)).trans ((hb1.mono (by omega)).trans (hb2.mono (by have := hb1.size; simp at this; omega))))
  have hz2 : w.heap.size + 3 ≤ w2.heap.size := by have := hin2.out.box.lt; omega
  refine wp_genW (fun W' => Below w2.heap.size w2 W' ∧ Blk W' w2.heap.size #[.pointer (some ⟨w.heap.size + 1 + 1, 0, none⟩), .string ⟨client.toArray⟩, .int .i64 window, .int .i64 room, .int .i64 seq, .int .i64 id, .slice none 0 0, .slice none 0 0, .slice none 0 0] 77) ⟨(Below.refl _ w2).alloc (Nat.le_refl _) _, Blk.new w2 _ _⟩ ?_
  rintro w3 ⟨hb3, hbox3⟩
  have k6 : w3.cell? ⟨w2.heap.size, 6, none⟩ = some (.slice none 0 0) := hbox3.cell 6
  go_loopw [73] (fun i wr => i = .int .i64 0 ∧ w3 = wr) (fun _ _ => 0)
  case atStart => exact ⟨rfl, rfl⟩
  case round =>
    obtain ⟨rfl, rfl⟩ := hrel
    go_wp2_with (go_at_call 28; refine (CS.out _).mono ?_; rintro e w4 ⟨rfl, rfl⟩)
    go_loopw [17] (fun i wr => i = .int .i64 1 ∧ w3 = wr) (fun _ _ => 0)
    case atStart => exact ⟨rfl, rfl⟩
    case round =>
      obtain ⟨rfl, rfl⟩ := hrel
      go_wp2
      simp only [Exit.noGoto_ret]
      go_returns
      have hB03 := hB02.out.trans (hb3.mono hB02.out.size)
      have hg := hT.lt
      refine ⟨⟨w2.heap.size, w.heap.size + 1 + 1, w.heap.size + 1, .slice none 0 0, .slice none 0 0, .slice none 0 0, [], fun _ => 0⟩, rfl, ⟨Nat.le_refl _, hbox3, hin2.out.below hb3, SetIs.nil, World.ownsRow_nil _ _ _ _, rfl, fun i b r h1 h2 => by simp at h1, List.nodup_nil, World.ownsRow_nil _ _ _ _, World.ownsRow_nil _ _ _ _, hT.below hB03, ?_, ?_⟩, ⟨rfl, rfl⟩, Wrote.of_below hB03, ?_⟩
      · simp [Lay.foot, blk, Value.ownBlock]; omega
      · exact ⟨hw, ⟨hr.2, by simp; omega⟩, ⟨hs.1, Int.le_trans hs.2 (by decide)⟩, hi, hc, fun r hr => by simp at hr, by simp [idsOf], by simp [idsOf]; omega⟩
      · intro x hx
        simp [Lay.foot, blk, Value.ownBlock] at hx
        right
        omega

set_option maxRecDepth 100000 in
set_option maxHeartbeats 400000 in
theorem out_New (window room : Int) (client : List UInt8) (w : World) (hT : TzAt w) (hw : 1 ≤ window ∧ window ≤ 100) (hr : 1 ≤ room ∧ room ≤ 1000) (hc : client.length ≤ 23) (hmay : sessMay (sessV client 0 1) = true) :
    Calls Tryz.prog 14 #[.string ⟨client.toArray⟩, .int .i64 window, .int .i64 room] w fun e w' => ∃ L, e = .returned (.tuple #[.pointer (some ⟨L.p, 0, none⟩), .int .i64 0]) ∧
      OB w' w'.heap.size L ⟨client, window, room, 0, 1, []⟩ [] [] ∧ (L.vp = .slice none 0 0 ∧ L.vc = .slice none 0 0) ∧ Stp [] L.foot w w' := by
  have CO := hid (out_Of window room client 0 1 w hT hw hr (by omega) (by omega) hc hmay)
  clear hmay
  unfold sessV RowV.vals at CO
  go_enter Tryz.func14, Tryz.ntmps14
  go_wp2_with (go_at_call 8; refine CO.out.mono ?_; rintro e w1 ⟨L, rfl, hO, hn, hS⟩)
  go_returns
  exact ⟨L, rfl, hO, hn, hS⟩

set_option maxRecDepth 100000 in
set_option maxHeartbeats 400000 in
theorem out_Len {w : World} {B : Nat} {L : Lay} {s : OS} {ps : List PackV} {cs : List ChangeV} (h : OB w B L s ps cs) :
    Calls Tryz.prog 12 #[.pointer (some ⟨L.p, 0, none⟩)] w fun e w' => e = .returned (.int .i64 s.l.length) ∧ w = w' := by
  have CN := hid (out_none h)
  obtain ⟨a, cap, hv, -⟩ := own_cell h.rows
  have k6 : w.cell? ⟨L.p, 6, none⟩ = some (.slice a s.l.length cap) := (h.box.cell 6).trans (by simp [boxCells, hv])
  go_enter Tryz.func12, Tryz.ntmps12
  go_wp2_with (go_at_call 31; refine CN.out.mono ?_; rintro e w1 ⟨rfl, rfl⟩)
  go_ret
  exact ⟨rfl, rfl⟩
end Go.Proofs.YtodbdojjllabmaaGreatDoor
