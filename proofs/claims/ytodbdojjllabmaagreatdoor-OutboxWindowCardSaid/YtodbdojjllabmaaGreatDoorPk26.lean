/- The calls of an outbox, whatever they are given: what is refused. -/
import Derived.Test.YtodbdojjllabmaaGreatDoorPk24
import Derived.Test.YtodbdojjllabmaaGreatDoorPk25
namespace Go.Proofs.YtodbdojjllabmaaGreatDoor
open Go.RowKit Go.Shelf

set_option maxRecDepth 100000 in
set_option maxHeartbeats 1000000 in
theorem out_Put_arg {w : World} {B : Nat} {L : Lay} {s : OS} {ps : List PackV} {cs : List ChangeV} (h : OB w B L s ps cs) (topic body : List UInt8) (qos : Int) (retain : Bool)
    (ht : topic.length ≤ 9223372036854775807) (hA : AnyOK topic) (hmay : putMay (s.row topic body qos retain) = false) :
    Calls Tryz.prog 9 #[.pointer (some ⟨L.p, 0, none⟩), .string ⟨topic.toArray⟩, .string ⟨body.toArray⟩, .int .i64 qos, .bool retain] w fun e w' => e = .returned (.tuple #[.agg #[.slice none 0 0, .slice none 0 0], .int .i64 2]) ∧ Below w.heap.size w w' := by
  have CK := hid fun w1 => rec_Check_put (s.row topic body qos retain) w1 rfl rfl rfl (by have := h.ok.cl; show s.client.length ≤ _; omega) ht hA
  rw [if_neg (by rw [hmay]; simp)] at CK
  obtain ⟨r, hr⟩ : ∃ r, s.row topic body qos retain = r := ⟨_, rfl⟩
  have hrv : r.vals = #[.int .i64 3, .string ⟨s.client.toArray⟩, .int .i64 s.seq, .int .i64 0, .string ⟨topic.toArray⟩, .string ⟨body.toArray⟩, .int .i64 qos, .bool retain, .int .i64 1] := by rw [← hr]; rfl
  rw [hr] at CK
  rw [hrv] at CK
  have hok := h.ok
  obtain ⟨client, window, room, seq, id, l⟩ := s
  obtain ⟨p, ib, sb, vl, vp, vc, rb, W⟩ := L
  dsimp only at hok CK ⊢
  have hvl := h.rows
  try dsimp only at hvl
  obtain ⟨al, cl, rfl⟩ := own_slice hvl
  replace hvl := hid hvl
  have hlen := hok.room
  clear hok hr hmay
  have CN := hid fun (w1 : World) (hb : Below w.heap.size w w1) => out_none (h.below hb)
  try dsimp only at CN
  have c1 : ∀ o, (w.alloc o).cell? ⟨p, 1, none⟩ = some (.string ⟨client.toArray⟩) := fun o => (h.box.alloc o).cell 1
  have c4 : ∀ o, (w.alloc o).cell? ⟨p, 4, none⟩ = some (.int .i64 seq) := fun o => (h.box.alloc o).cell 4
  have hp : p < w.heap.size := h.box.lt
  try dsimp only at hp
  go_enter Tryz.func9, Tryz.ntmps9
  go_wp2_with (go_at_call 31; refine (CN.out _ ((Below.refl _ w).alloc (Nat.le_refl _) _)).mono ?_; rintro e w1 ⟨rfl, rfl⟩)
  go_region
  go_wp2_with fail
  refine (CK.out _).mono ?_
  clear CK
  rintro e w2 ⟨rfl, hb2⟩
  have hB2 : Below w.heap.size w w2 := ((((Below.refl _ w).alloc (Nat.le_refl _) _).alloc (by simp) _).drew).trans (hb2.mono (by simp; omega))
  have hDid2 := ((Blk.new w #[.slice none 0 0, .slice none 0 0] 34).alloc (.cells #[.int .i64 3, .string ⟨client.toArray⟩, .int .i64 seq, .int .i64 0, .string ⟨topic.toArray⟩, .string ⟨body.toArray⟩, .int .i64 qos, .bool retain, .int .i64 1] 30)).drew.below hb2
  clear hb2 c1 c4 CN
  have hp2 : p ≠ w.heap.size := by omega
  have k0 := hDid2.cell 0
  have k1 := hDid2.cell 1
  try dsimp only at k0 k1
  have b0 := hDid2.frozen 0
  have b1 := hDid2.frozen 1
  go_wp2
  refine bodyPost_gen (fun W' => W'.cell? ⟨w.heap.size, 0, none⟩ = some (.slice none 0 0) ∧ W'.cell? ⟨w.heap.size, 1, none⟩ = some (.slice none 0 0) ∧ Below w.heap.size w W') ⟨((hDid2.set 0 _).set 1 _).cell 0, ((hDid2.set 0 _).set 1 _).cell 1, (hB2.setCell (Nat.le_refl _) _).setCell (Nat.le_refl _) _⟩ ?_
  rintro W' ⟨e0, e1, hW⟩
  exact bodyPost_ret (v := .tuple #[.agg #[.slice none 0 0, .slice none 0 0], .int .i64 2]) (by simp [results, Tryz.results9, go_sem, e0, e1]) rfl ⟨rfl, hW⟩
set_option maxRecDepth 100000 in
set_option maxHeartbeats 1000000 in
theorem out_Put_full {w : World} {B : Nat} {L : Lay} {s : OS} {ps : List PackV} {cs : List ChangeV} (h : OB w B L s ps cs) (topic body : List UInt8) (qos : Int) (retain : Bool)
    (ht : topic.length ≤ 9223372036854775807) (hA : AnyOK topic) (hmay : putMay (s.row topic body qos retain) = true) (hroom : s.room ≤ (s.l.length : Int)) :
    Calls Tryz.prog 9 #[.pointer (some ⟨L.p, 0, none⟩), .string ⟨topic.toArray⟩, .string ⟨body.toArray⟩, .int .i64 qos, .bool retain] w fun e w' => e = .returned (.tuple #[.agg #[.slice none 0 0, .slice none 0 0], .int .i64 150]) ∧ Below w.heap.size w w' := by
  have CK := hid fun w1 => rec_Check_put (s.row topic body qos retain) w1 rfl rfl rfl (by have := h.ok.cl; show s.client.length ≤ _; omega) ht hA
  rw [if_pos hmay] at CK
  obtain ⟨r, hr⟩ : ∃ r, s.row topic body qos retain = r := ⟨_, rfl⟩
  have hrv : r.vals = #[.int .i64 3, .string ⟨s.client.toArray⟩, .int .i64 s.seq, .int .i64 0, .string ⟨topic.toArray⟩, .string ⟨body.toArray⟩, .int .i64 qos, .bool retain, .int .i64 1] := by rw [← hr]; rfl
  rw [hr] at CK
  rw [hrv] at CK
  have hok := h.ok
  obtain ⟨client, window, room, seq, id, l⟩ := s
  obtain ⟨p, ib, sb, vl, vp, vc, rb, W⟩ := L
  dsimp only at hok CK ⊢
  have hvl := h.rows
  try dsimp only at hvl
  obtain ⟨al, cl, rfl⟩ := own_slice hvl
  replace hvl := hid hvl
  have hlen := hok.room
  clear hok hr hmay
  have CN := hid fun (w1 : World) (hb : Below w.heap.size w w1) => out_none (h.below hb)
  try dsimp only at CN
  have c1 : ∀ o, (w.alloc o).cell? ⟨p, 1, none⟩ = some (.string ⟨client.toArray⟩) := fun o => (h.box.alloc o).cell 1
  have c4 : ∀ o, (w.alloc o).cell? ⟨p, 4, none⟩ = some (.int .i64 seq) := fun o => (h.box.alloc o).cell 4
  have hp : p < w.heap.size := h.box.lt
  try dsimp only at hp
  dsimp only at hroom
  go_enter Tryz.func9, Tryz.ntmps9
  go_wp2_with (go_at_call 31; refine (CN.out _ ((Below.refl _ w).alloc (Nat.le_refl _) _)).mono ?_; rintro e w1 ⟨rfl, rfl⟩)
  go_region
  go_wp2_with fail
  refine (CK.out _).mono ?_
  clear CK
  rintro e w2 ⟨rfl, hb2⟩
  have hB2 : Below w.heap.size w w2 := ((((Below.refl _ w).alloc (Nat.le_refl _) _).alloc (by simp) _).drew).trans (hb2.mono (by simp; omega))
  have hDid2 := ((Blk.new w #[.slice none 0 0, .slice none 0 0] 34).alloc (.cells #[.int .i64 3, .string ⟨client.toArray⟩, .int .i64 seq, .int .i64 0, .string ⟨topic.toArray⟩, .string ⟨body.toArray⟩, .int .i64 qos, .bool retain, .int .i64 1] 30)).drew.below hb2
  clear hb2 c1 c4 CN
  have hp2 : p ≠ w.heap.size := by omega
  have HO2 := hid (h.below hB2)
  have k6 : w2.cell? ⟨p, 6, none⟩ = some (.slice al l.length cl) := HO2.out.box.cell 6
  have k3 : w2.cell? ⟨p, 3, none⟩ = some (.int .i64 room) := HO2.out.box.cell 3
  have d1 : decide (room ≤ (l.length : Int)) = true := decide_eq_true (by omega)
  go_wp2_with fail
  go_region
  clear k6 k3
  have k0 := hDid2.cell 0
  have k1 := hDid2.cell 1
  try dsimp only at k0 k1
  have b0 := hDid2.frozen 0
  have b1 := hDid2.frozen 1
  go_wp2
  refine bodyPost_gen (fun W' => W'.cell? ⟨w.heap.size, 0, none⟩ = some (.slice none 0 0) ∧ W'.cell? ⟨w.heap.size, 1, none⟩ = some (.slice none 0 0) ∧ Below w.heap.size w W') ⟨((hDid2.drew.set 0 _).set 1 _).cell 0, ((hDid2.drew.set 0 _).set 1 _).cell 1, (hB2.drew.setCell (Nat.le_refl _) _).setCell (Nat.le_refl _) _⟩ ?_
  rintro W' ⟨e0, e1, hW⟩
  exact bodyPost_ret (v := .tuple #[.agg #[.slice none 0 0, .slice none 0 0], .int .i64 150]) (by simp [results, Tryz.results9, go_sem, e0, e1]) rfl ⟨rfl, hW⟩

theorem nilFunc_nil (W : World) : (binOp .eql 92 .nilFunc .nilFunc).run Tryz.prog W = .ok (.bool true) W := by
  have h : (Op.equal 92 .nilFunc .nilFunc).run Tryz.prog W = .ok true W := by
    unfold Op.equal
    rw [show Op.maxDepth = (Op.maxDepth - 1) + 1 from rfl]
    unfold Op.equalIn
    simp [run_underlying Tryz.underlying92]
  simp [binOp, h]
theorem keys3 {x : MapEntry} {a b c : Int} {va vb vc : Value} {k : Int} {n1 n2 n3 : Nat} (hx : x ∈ [(⟨.int .i64 a, va, n1⟩ : MapEntry), ⟨.int .i64 b, vb, n2⟩, ⟨.int .i64 c, vc, n3⟩]) (h1 : k ≠ a) (h2 : k ≠ b) (h3 : k ≠ c) : ∃ d, x.key = .int .i64 d ∧ d ≠ k := by
  simp only [List.mem_cons, List.not_mem_nil, or_false] at hx
  rcases hx with rfl | rfl | rfl
  · exact ⟨a, rfl, Ne.symm h1⟩
  · exact ⟨b, rfl, Ne.symm h2⟩
  · exact ⟨c, rfl, Ne.symm h3⟩
set_option maxRecDepth 100000 in
set_option maxHeartbeats 2000000 in
/-- Hear, of what is no answer or no ID. -/
theorem out_Hear_bad {w : World} {B : Nat} {L : Lay} {s : OS} {ps : List PackV} {cs : List ChangeV} (h : OB w B L s ps cs) (k z : Int) (hk : ¬ ((k = 4 ∨ k = 5 ∨ k = 7) ∧ 1 ≤ z ∧ z ≤ 65535)) :
    Calls Tryz.prog 11 #[.pointer (some ⟨L.p, 0, none⟩), .int .i64 k, .int .i64 z] w fun e w' => e = .returned (.tuple #[.agg #[.slice none 0 0, .slice none 0 0], .int .i64 2]) ∧ Below w.heap.size w w' := by
  have CN := hid fun (w1 : World) (hb : Below w.heap.size w w1) => out_none (h.below hb)
  have hmm := @run_makeMap Tryz.prog
  have hb0 : ((w.alloc (.cells #[.slice none 0 0, .slice none 0 0] 34)).alloc (.map #[] 0)).heap[w.heap.size + 1]? = some (.map #[] 0) := by simpa using World.alloc_heap_new (w.alloc (.cells #[.slice none 0 0, .slice none 0 0] 34)) (.map #[] 0)
  have B0 : Below w.heap.size w ((w.alloc (.cells #[.slice none 0 0, .slice none 0 0] 34)).alloc (.map #[] 0)) := ((Below.refl _ w).alloc (Nat.le_refl _) _).alloc (by simp) _
  have D0 := (Blk.new w #[.slice none 0 0, .slice none 0 0] 34).alloc (.map #[] 0)
  have Z0 : ((w.alloc (.cells #[.slice none 0 0, .slice none 0 0] 34)).alloc (.map #[] 0)).heap.size ≥ w.heap.size + 2 := by simp
  by_cases hkk : k = 4 ∨ k = 5 ∨ k = 7
  · have hz : ¬ (1 ≤ z ∧ z ≤ 65535) := fun hz => hk ⟨hkk, hz⟩
    have hnil := func_not_nil
    by_cases hz1 : z < 1
    · have dz : decide (z < 1) = true := decide_eq_true hz1
      rcases hkk with rfl | rfl | rfl
      · skip
        go_enter Tryz.func11, Tryz.ntmps11
        go_wp2_with (
          refine wpList_insert_new _ rfl _ _ _ 94 rfl 38 92 .i64 Tryz.underlying94 Tryz.underlying38 _ _ _ rfl (by with_reducible assumption) _ _ rfl rfl (by simp [putE]) ?_
          intro w1 hb1 hg1
          replace B0 := B0.grown hg1 B0.size (fun k hk => by cases hk; omega)
          replace D0 := D0.keep (hg1.block _ (by omega) (by simp))
          replace Z0 := Nat.le_trans Z0 hg1.size
          try (have HL := run_lookup_at (P := Tryz.prog) 94 38 92 .i64 Tryz.underlying94 Tryz.underlying38 _ _ _ _ hb1 4 _ 0 rfl false)
          clear hg1)
        refine (CN.out _ B0).mono ?_
        rintro e w2 ⟨rfl, rfl⟩
        have y0 : w1.cell? ⟨w.heap.size, 0, none⟩ = some (.slice none 0 0) := D0.cell 0
        have y1 : w1.cell? ⟨w.heap.size, 1, none⟩ = some (.slice none 0 0) := D0.cell 1
        have z0 := D0.frozen 0
        have z1 := D0.frozen 1
        go_wp2
        refine bodyPost_gen (fun W' => W'.cell? ⟨w.heap.size, 0, none⟩ = some (.slice none 0 0) ∧ W'.cell? ⟨w.heap.size, 1, none⟩ = some (.slice none 0 0) ∧ Wrote [w.heap.size] w1 W') ⟨((D0.set 0 _).set 1 _).cell 0, ((D0.set 0 _).set 1 _).cell 1, (Wrote.setCell (M := [w.heap.size]) w1 ⟨w.heap.size, 0, none⟩ (by simp) _).trans (Wrote.setCell _ ⟨w.heap.size, 1, none⟩ (by simp) _)⟩ ?_
        rintro W' ⟨e0, e1, hW⟩
        refine bodyPost_ret (v := .tuple #[.agg #[.slice none 0 0, .slice none 0 0], .int .i64 2]) (by simp [results, Tryz.results11, go_sem, e0, e1]) rfl ?_
        exact ⟨rfl, B0.trans (hW.below B0.size (by simp))⟩
      · skip
        go_enter Tryz.func11, Tryz.ntmps11
        go_wp2_with (
          refine wpList_insert_new _ rfl _ _ _ 94 rfl 38 92 .i64 Tryz.underlying94 Tryz.underlying38 _ _ _ rfl (by with_reducible assumption) _ _ rfl rfl (by simp [putE]) ?_
          intro w1 hb1 hg1
          replace B0 := B0.grown hg1 B0.size (fun k hk => by cases hk; omega)
          replace D0 := D0.keep (hg1.block _ (by omega) (by simp))
          replace Z0 := Nat.le_trans Z0 hg1.size
          try (have HL := run_lookup_at (P := Tryz.prog) 94 38 92 .i64 Tryz.underlying94 Tryz.underlying38 _ _ _ _ hb1 5 _ 1 rfl false)
          clear hg1)
        refine (CN.out _ B0).mono ?_
        rintro e w2 ⟨rfl, rfl⟩
        have y0 : w1.cell? ⟨w.heap.size, 0, none⟩ = some (.slice none 0 0) := D0.cell 0
        have y1 : w1.cell? ⟨w.heap.size, 1, none⟩ = some (.slice none 0 0) := D0.cell 1
        have z0 := D0.frozen 0
        have z1 := D0.frozen 1
        go_wp2
        refine bodyPost_gen (fun W' => W'.cell? ⟨w.heap.size, 0, none⟩ = some (.slice none 0 0) ∧ W'.cell? ⟨w.heap.size, 1, none⟩ = some (.slice none 0 0) ∧ Wrote [w.heap.size] w1 W') ⟨((D0.set 0 _).set 1 _).cell 0, ((D0.set 0 _).set 1 _).cell 1, (Wrote.setCell (M := [w.heap.size]) w1 ⟨w.heap.size, 0, none⟩ (by simp) _).trans (Wrote.setCell _ ⟨w.heap.size, 1, none⟩ (by simp) _)⟩ ?_
        rintro W' ⟨e0, e1, hW⟩
        refine bodyPost_ret (v := .tuple #[.agg #[.slice none 0 0, .slice none 0 0], .int .i64 2]) (by simp [results, Tryz.results11, go_sem, e0, e1]) rfl ?_
        exact ⟨rfl, B0.trans (hW.below B0.size (by simp))⟩
      · skip
        go_enter Tryz.func11, Tryz.ntmps11
        go_wp2_with (
          refine wpList_insert_new _ rfl _ _ _ 94 rfl 38 92 .i64 Tryz.underlying94 Tryz.underlying38 _ _ _ rfl (by with_reducible assumption) _ _ rfl rfl (by simp [putE]) ?_
          intro w1 hb1 hg1
          replace B0 := B0.grown hg1 B0.size (fun k hk => by cases hk; omega)
          replace D0 := D0.keep (hg1.block _ (by omega) (by simp))
          replace Z0 := Nat.le_trans Z0 hg1.size
          try (have HL := run_lookup_at (P := Tryz.prog) 94 38 92 .i64 Tryz.underlying94 Tryz.underlying38 _ _ _ _ hb1 7 _ 2 rfl false)
          clear hg1)
        refine (CN.out _ B0).mono ?_
        rintro e w2 ⟨rfl, rfl⟩
        have y0 : w1.cell? ⟨w.heap.size, 0, none⟩ = some (.slice none 0 0) := D0.cell 0
        have y1 : w1.cell? ⟨w.heap.size, 1, none⟩ = some (.slice none 0 0) := D0.cell 1
        have z0 := D0.frozen 0
        have z1 := D0.frozen 1
        go_wp2
        refine bodyPost_gen (fun W' => W'.cell? ⟨w.heap.size, 0, none⟩ = some (.slice none 0 0) ∧ W'.cell? ⟨w.heap.size, 1, none⟩ = some (.slice none 0 0) ∧ Wrote [w.heap.size] w1 W') ⟨((D0.set 0 _).set 1 _).cell 0, ((D0.set 0 _).set 1 _).cell 1, (Wrote.setCell (M := [w.heap.size]) w1 ⟨w.heap.size, 0, none⟩ (by simp) _).trans (Wrote.setCell _ ⟨w.heap.size, 1, none⟩ (by simp) _)⟩ ?_
        rintro W' ⟨e0, e1, hW⟩
        refine bodyPost_ret (v := .tuple #[.agg #[.slice none 0 0, .slice none 0 0], .int .i64 2]) (by simp [results, Tryz.results11, go_sem, e0, e1]) rfl ?_
        exact ⟨rfl, B0.trans (hW.below B0.size (by simp))⟩
    · have dz : decide (z < 1) = false := decide_eq_false hz1
      have dz2 : decide (65535 < z) = true := decide_eq_true (by omega)
      rcases hkk with rfl | rfl | rfl
      · skip
        go_enter Tryz.func11, Tryz.ntmps11
        go_wp2_with (
          refine wpList_insert_new _ rfl _ _ _ 94 rfl 38 92 .i64 Tryz.underlying94 Tryz.underlying38 _ _ _ rfl (by with_reducible assumption) _ _ rfl rfl (by simp [putE]) ?_
          intro w1 hb1 hg1
          replace B0 := B0.grown hg1 B0.size (fun k hk => by cases hk; omega)
          replace D0 := D0.keep (hg1.block _ (by omega) (by simp))
          replace Z0 := Nat.le_trans Z0 hg1.size
          try (have HL := run_lookup_at (P := Tryz.prog) 94 38 92 .i64 Tryz.underlying94 Tryz.underlying38 _ _ _ _ hb1 4 _ 0 rfl false)
          clear hg1)
        refine (CN.out _ B0).mono ?_
        rintro e w2 ⟨rfl, rfl⟩
        have y0 : w1.cell? ⟨w.heap.size, 0, none⟩ = some (.slice none 0 0) := D0.cell 0
        have y1 : w1.cell? ⟨w.heap.size, 1, none⟩ = some (.slice none 0 0) := D0.cell 1
        have z0 := D0.frozen 0
        have z1 := D0.frozen 1
        go_wp2
        refine bodyPost_gen (fun W' => W'.cell? ⟨w.heap.size, 0, none⟩ = some (.slice none 0 0) ∧ W'.cell? ⟨w.heap.size, 1, none⟩ = some (.slice none 0 0) ∧ Wrote [w.heap.size] w1 W') ⟨((D0.set 0 _).set 1 _).cell 0, ((D0.set 0 _).set 1 _).cell 1, (Wrote.setCell (M := [w.heap.size]) w1 ⟨w.heap.size, 0, none⟩ (by simp) _).trans (Wrote.setCell _ ⟨w.heap.size, 1, none⟩ (by simp) _)⟩ ?_
        rintro W' ⟨e0, e1, hW⟩
        refine bodyPost_ret (v := .tuple #[.agg #[.slice none 0 0, .slice none 0 0], .int .i64 2]) (by simp [results, Tryz.results11, go_sem, e0, e1]) rfl ?_
        exact ⟨rfl, B0.trans (hW.below B0.size (by simp))⟩
      · skip
        go_enter Tryz.func11, Tryz.ntmps11
        go_wp2_with (
          refine wpList_insert_new _ rfl _ _ _ 94 rfl 38 92 .i64 Tryz.underlying94 Tryz.underlying38 _ _ _ rfl (by with_reducible assumption) _ _ rfl rfl (by simp [putE]) ?_
          intro w1 hb1 hg1
          replace B0 := B0.grown hg1 B0.size (fun k hk => by cases hk; omega)
          replace D0 := D0.keep (hg1.block _ (by omega) (by simp))
          replace Z0 := Nat.le_trans Z0 hg1.size
          try (have HL := run_lookup_at (P := Tryz.prog) 94 38 92 .i64 Tryz.underlying94 Tryz.underlying38 _ _ _ _ hb1 5 _ 1 rfl false)
          clear hg1)
        refine (CN.out _ B0).mono ?_
        rintro e w2 ⟨rfl, rfl⟩
        have y0 : w1.cell? ⟨w.heap.size, 0, none⟩ = some (.slice none 0 0) := D0.cell 0
        have y1 : w1.cell? ⟨w.heap.size, 1, none⟩ = some (.slice none 0 0) := D0.cell 1
        have z0 := D0.frozen 0
        have z1 := D0.frozen 1
        go_wp2
        refine bodyPost_gen (fun W' => W'.cell? ⟨w.heap.size, 0, none⟩ = some (.slice none 0 0) ∧ W'.cell? ⟨w.heap.size, 1, none⟩ = some (.slice none 0 0) ∧ Wrote [w.heap.size] w1 W') ⟨((D0.set 0 _).set 1 _).cell 0, ((D0.set 0 _).set 1 _).cell 1, (Wrote.setCell (M := [w.heap.size]) w1 ⟨w.heap.size, 0, none⟩ (by simp) _).trans (Wrote.setCell _ ⟨w.heap.size, 1, none⟩ (by simp) _)⟩ ?_
        rintro W' ⟨e0, e1, hW⟩
        refine bodyPost_ret (v := .tuple #[.agg #[.slice none 0 0, .slice none 0 0], .int .i64 2]) (by simp [results, Tryz.results11, go_sem, e0, e1]) rfl ?_
        exact ⟨rfl, B0.trans (hW.below B0.size (by simp))⟩
      · skip
        go_enter Tryz.func11, Tryz.ntmps11
        go_wp2_with (
          refine wpList_insert_new _ rfl _ _ _ 94 rfl 38 92 .i64 Tryz.underlying94 Tryz.underlying38 _ _ _ rfl (by with_reducible assumption) _ _ rfl rfl (by simp [putE]) ?_
          intro w1 hb1 hg1
          replace B0 := B0.grown hg1 B0.size (fun k hk => by cases hk; omega)
          replace D0 := D0.keep (hg1.block _ (by omega) (by simp))
          replace Z0 := Nat.le_trans Z0 hg1.size
          try (have HL := run_lookup_at (P := Tryz.prog) 94 38 92 .i64 Tryz.underlying94 Tryz.underlying38 _ _ _ _ hb1 7 _ 2 rfl false)
          clear hg1)
        refine (CN.out _ B0).mono ?_
        rintro e w2 ⟨rfl, rfl⟩
        have y0 : w1.cell? ⟨w.heap.size, 0, none⟩ = some (.slice none 0 0) := D0.cell 0
        have y1 : w1.cell? ⟨w.heap.size, 1, none⟩ = some (.slice none 0 0) := D0.cell 1
        have z0 := D0.frozen 0
        have z1 := D0.frozen 1
        go_wp2
        refine bodyPost_gen (fun W' => W'.cell? ⟨w.heap.size, 0, none⟩ = some (.slice none 0 0) ∧ W'.cell? ⟨w.heap.size, 1, none⟩ = some (.slice none 0 0) ∧ Wrote [w.heap.size] w1 W') ⟨((D0.set 0 _).set 1 _).cell 0, ((D0.set 0 _).set 1 _).cell 1, (Wrote.setCell (M := [w.heap.size]) w1 ⟨w.heap.size, 0, none⟩ (by simp) _).trans (Wrote.setCell _ ⟨w.heap.size, 1, none⟩ (by simp) _)⟩ ?_
        rintro W' ⟨e0, e1, hW⟩
        refine bodyPost_ret (v := .tuple #[.agg #[.slice none 0 0, .slice none 0 0], .int .i64 2]) (by simp [results, Tryz.results11, go_sem, e0, e1]) rfl ?_
        exact ⟨rfl, B0.trans (hW.below B0.size (by simp))⟩
  · have hnil := nilFunc_nil
    have e4 : k ≠ 4 := by omega
    have e5 : k ≠ 5 := by omega
    have e7 : k ≠ 7 := by omega
    go_enter Tryz.func11, Tryz.ntmps11
    go_wp2_with (
      refine wpList_insert_new _ rfl _ _ _ 94 rfl 38 92 .i64 Tryz.underlying94 Tryz.underlying38 _ _ _ rfl (by with_reducible assumption) _ _ rfl rfl (by simp [putE]) ?_
      intro w1 hb1 hg1
      replace B0 := B0.grown hg1 B0.size (fun k hk => by cases hk; omega)
      replace D0 := D0.keep (hg1.block _ (by omega) (by simp))
      replace Z0 := Nat.le_trans Z0 hg1.size
      try (have HL := run_lookup_not (P := Tryz.prog) 94 38 92 .i64 Tryz.underlying94 Tryz.underlying38 _ _ _ _ .nilFunc (by kernel_rfl) hb1 k (fun x hx => keys3 hx e4 e5 e7) false)
      clear hg1)
    refine (CN.out _ B0).mono ?_
    rintro e w2 ⟨rfl, rfl⟩
    have y0 : w1.cell? ⟨w.heap.size, 0, none⟩ = some (.slice none 0 0) := D0.cell 0
    have y1 : w1.cell? ⟨w.heap.size, 1, none⟩ = some (.slice none 0 0) := D0.cell 1
    have z0 := D0.frozen 0
    have z1 := D0.frozen 1
    go_wp2
    refine bodyPost_gen (fun W' => W'.cell? ⟨w.heap.size, 0, none⟩ = some (.slice none 0 0) ∧ W'.cell? ⟨w.heap.size, 1, none⟩ = some (.slice none 0 0) ∧ Wrote [w.heap.size] w1 W') ⟨((D0.set 0 _).set 1 _).cell 0, ((D0.set 0 _).set 1 _).cell 1, (Wrote.setCell (M := [w.heap.size]) w1 ⟨w.heap.size, 0, none⟩ (by simp) _).trans (Wrote.setCell _ ⟨w.heap.size, 1, none⟩ (by simp) _)⟩ ?_
    rintro W' ⟨e0, e1, hW⟩
    refine bodyPost_ret (v := .tuple #[.agg #[.slice none 0 0, .slice none 0 0], .int .i64 2]) (by simp [results, Tryz.results11, go_sem, e0, e1]) rfl ?_
    exact ⟨rfl, B0.trans (hW.below B0.size (by simp))⟩
end Go.Proofs.YtodbdojjllabmaaGreatDoor
