/- Contracts of package outbox (part 18): Of without rows, New, Len. · Packs that wait: a slice of packs in a block, from some place on; its first one, its tail, append. -/
import Derived.Test.YtodbdojjllabmaaGreatDoorPk23
import Derived.Test.YtodbdojjllabmaaGreatDoorPk25
import Derived.Test.YtodbdojjllabmaaGreatDoorPk24
import Derived.Test.YtodbdojjllabmaaGreatDoorPk03
import Derived.Deep.MidRow
import Derived.ArgAppend
import Derived.Deep.AppendSrc
namespace Go.Proofs.YtodbdojjllabmaaGreatDoor
open Go.RowKit Go.Shelf

set_option maxRecDepth 100000 in
set_option maxHeartbeats 400000 in
theorem bits_Len64_0 (w : World) : Calls Tryz.prog 112 #[.int .u64 0] w fun e w' => e = .returned (.int .i64 0) ∧ w = w' := by
  go_enter Tryz.func112, Tryz.ntmps112
  go_wp2
  go_ret
  refine ⟨?_, rfl⟩
  kernel_rfl
set_option maxRecDepth 100000 in
set_option maxHeartbeats 400000 in
theorem bits_Len_0 (w : World) : Calls Tryz.prog 55 #[.int .u64 0] w fun e w' => e = .returned (.int .i64 0) ∧ w = w' := by
  have C := hid (bits_Len64_0)
  go_enter Tryz.func55, Tryz.ntmps55
  go_wp2_with (go_at_call 112; refine (C.out _).mono ?_; rintro e w1 ⟨rfl, rfl⟩)
  go_ret
  exact ⟨rfl, rfl⟩
set_option maxRecDepth 100000 in
set_option maxHeartbeats 400000 in
theorem insert_nil (f : Value) (w : World) : Calls Tryz.prog 103 #[.slice none 0 0, .int .i64 0, .int .i64 0, f] w fun e w' => e = .returned (.tuple #[]) ∧ w = w' := by
  go_enter Tryz.func103, Tryz.ntmps103
  go_wp2
  go_loopw [8] (fun i wr => i = .int .i64 1 ∧ w = wr) (fun _ _ => 0)
  case atStart => exact ⟨rfl, rfl⟩
  case round =>
    obtain ⟨rfl, rfl⟩ := hrel
    go_wp2
    go_end0
    exact ⟨rfl, rfl⟩
set_option maxRecDepth 100000 in
set_option maxHeartbeats 1000000 in
theorem pdq_nil (f : Value) (w : World) : Calls Tryz.prog 54 #[.slice none 0 0, .int .i64 0, .int .i64 0, .int .i64 0, f] w fun e w' => e = .returned (.tuple #[]) ∧ w = w' := by
  have C := hid (insert_nil f)
  go_enter Tryz.func54, Tryz.ntmps54
  go_wp2
  go_loopw [1, 2] (fun a b wr => a = .int .i64 0 ∧ b = .int .i64 0 ∧ w = wr) (fun _ _ _ => 0)
  case atStart => exact ⟨rfl, rfl, rfl⟩
  case round =>
    obtain ⟨rfl, rfl, rfl⟩ := hrel
    go_wp2_with (go_at_call 103; refine (C.out _).mono ?_; rintro e w1 ⟨rfl, rfl⟩)
    refine bodyPost_ret (results_none rfl _ _ _) rfl ?_
    exact ⟨rfl, rfl⟩
set_option maxRecDepth 100000 in
set_option maxHeartbeats 400000 in
theorem sort_nil (f : Value) (w : World) : Calls Tryz.prog 28 #[.slice none 0 0, f] w fun e w' => e = .returned (.tuple #[]) ∧ w = w' := by
  have C1 := hid (bits_Len_0)
  have C2 := hid (pdq_nil f)
  go_enter Tryz.func28, Tryz.ntmps28
  go_wp2_with (first
    | (go_at_call 55; refine (C1.out _).mono ?_; rintro e w1 ⟨rfl, rfl⟩)
    | (go_at_call 54; refine (C2.out _).mono ?_; rintro e w1 ⟨rfl, rfl⟩))
  go_end0
  exact ⟨rfl, rfl⟩

theorem wp_genW {P : Program} {code : Code} {Q : Exit → Act → World → Prop} {a : Act} {W : World} (C : World → Prop) (hC : C W) (h : ∀ W', C W' → code.wp P Q a W') : code.wp P Q a W := h W hC

def sessV (client : List UInt8) (seq id : Int) : RowV := ⟨1, client, seq, id, [], [], 0, false, 0⟩

set_option maxRecDepth 100000 in
set_option maxHeartbeats 2000000 in
theorem out_Of (window room : Int) (client : List UInt8) (seq id : Int) (w : World) (hT : TzAt w) (hw : 1 ≤ window ∧ window ≤ 100) (hr : 1 ≤ room ∧ room ≤ 1000) (hs : 0 ≤ seq ∧ seq ≤ 4611686018427387904) (hi : 1 ≤ id ∧ id ≤ 65535) (hc : client.length ≤ 23) (hmay : sessMay (sessV client seq id) = true) :
    Calls Tryz.prog 8 #[.int .i64 window, .int .i64 room, .agg (sessV client seq id).vals, .slice none 0 0] w fun e w' => ∃ L, e = .returned (.tuple #[.pointer (some ⟨L.p, 0, none⟩), .int .i64 0]) ∧
      OB w' w'.heap.size L ⟨client, window, room, seq, id, []⟩ [] [] ∧ (L.vp = .slice none 0 0 ∧ L.vc = .slice none 0 0) ∧ Stp [] L.foot w w' := by
  have CK := hid fun w1 => rec_Check_sess client seq id w1 (by omega)
  rw [show sessMay ⟨1, client, seq, id, [], [], 0, false, 0⟩ = true from hmay] at CK
  have CI := hid fun w1 => in_New 100 w1 (by decide) (by decide)
  have CS := hid (sort_nil (.func (.func 29) #[] #[]))
  clear hmay
  unfold sessV RowV.vals at *
  dsimp only at CK ⊢
  have d1 : decide (window < 1) = false := decide_eq_false (by omega)
  have d2 : decide (100 < window) = false := decide_eq_false (by omega)
  have d3 : decide (room < 1) = false := decide_eq_false (by omega)
  have d4 : decide (1000 < room) = false := decide_eq_false (by omega)
  have d5 : decide (room < 0) = false := decide_eq_false (by omega)
  have d6 : decide (id < 1) = false := decide_eq_false (by omega)
  have d7 : decide (65535 < id) = false := decide_eq_false (by omega)
  go_enter Tryz.func8, Tryz.ntmps8
  go_wp2
  refine wp_scope_straight ?_
  go_wp2_with fail
  refine (CI.out _).mono ?_
  rintro e w1 ⟨rfl, hin, hb1⟩
  simp only [World.size_alloc] at hin hb1 ⊢
  have hS1 := (Blk.new w #[.int .i64 1, .string ⟨client.toArray⟩, .int .i64 seq, .int .i64 id, .string ⟨#[]⟩, .string ⟨#[]⟩, .int .i64 0, .bool false, .int .i64 0] 30).below (by simpa using hb1)
  have s0 : w1.cell? ⟨w.heap.size, 0, none⟩ = some (.int .i64 1) := hS1.cell 0
  have s1 : w1.cell? ⟨w.heap.size, 1, none⟩ = some (.string ⟨client.toArray⟩) := hS1.cell 1
  have s2 : w1.cell? ⟨w.heap.size, 2, none⟩ = some (.int .i64 seq) := hS1.cell 2
  have s3 : w1.cell? ⟨w.heap.size, 3, none⟩ = some (.int .i64 id) := hS1.cell 3
  have s4 : w1.cell? ⟨w.heap.size, 4, none⟩ = some (.string ⟨#[]⟩) := hS1.cell 4
  have s5 : w1.cell? ⟨w.heap.size, 5, none⟩ = some (.string ⟨#[]⟩) := hS1.cell 5
  have s6 : w1.cell? ⟨w.heap.size, 6, none⟩ = some (.int .i64 0) := hS1.cell 6
  have s7 : w1.cell? ⟨w.heap.size, 7, none⟩ = some (.bool false) := hS1.cell 7
  have s8 : w1.cell? ⟨w.heap.size, 8, none⟩ = some (.int .i64 0) := hS1.cell 8
  have hin := hid hin
  go_wp2_with fail
  refine (CK.out _).mono ?_
  rintro e w2 ⟨rfl, hb2⟩
  clear s0 s1 s2 s3 s4 s5 s6 s7 s8
  have hS2 := hS1.below hb2
  have t1 : w2.cell? ⟨w.heap.size, 1, none⟩ = some (.string ⟨client.toArray⟩) := hS2.cell 1
  have t2 : w2.cell? ⟨w.heap.size, 2, none⟩ = some (.int .i64 seq) := hS2.cell 2
  have t3 : w2.cell? ⟨w.heap.size, 3, none⟩ = some (.int .i64 id) := hS2.cell 3
  go_wp2_with fail
  have hin2 := hid (hin.out.below hb2)
  have hB02 := hid (((Below.refl _ w).alloc (Nat.le_refl _) (.cells #[.int .i64 1, .string ⟨client.toArray⟩, .int .i64 seq, .int .i64 id, .string ⟨#[]⟩, .string ⟨#[]⟩, .int .i64 0, .bool false, .int .i64 0] 30)).trans ((hb1.mono (by omega)).trans (hb2.mono (by have := hb1.size; simp at this; omega))))
  have hz2 : w.heap.size + 3 ≤ w2.heap.size := by have := hin2.out.box.lt; omega
  refine wp_genW (fun W' => Below w2.heap.size w2 W' ∧ Blk W' w2.heap.size #[.pointer (some ⟨w.heap.size + 1 + 1, 0, none⟩), .string ⟨client.toArray⟩, .int .i64 window, .int .i64 room, .int .i64 seq, .int .i64 id, .slice none 0 0, .slice none 0 0, .slice none 0 0] 77) ⟨(Below.refl _ w2).alloc (Nat.le_refl _) _, Blk.new w2 _ _⟩ ?_
  rintro w3 ⟨hb3, hbox3⟩
  have k6 : w3.cell? ⟨w2.heap.size, 6, none⟩ = some (.slice none 0 0) := hbox3.cell 6
  go_loopw [73] (fun i wr => i = .int .i64 0 ∧ w3 = wr) (fun _ _ => 0)
  case atStart => exact ⟨rfl, rfl⟩
  case round =>
    obtain ⟨rfl, rfl⟩ := hrel
    go_wp2_with (go_at_call 28; refine (CS.out _).mono ?_; rintro e w4 ⟨rfl, rfl⟩)
    go_loopw [17] (fun i wr => i = .int .i64 1 ∧ w3 = wr) (fun _ _ => 0)
    case atStart => exact ⟨rfl, rfl⟩
    case round =>
      obtain ⟨rfl, rfl⟩ := hrel
      go_wp2
      simp only [Exit.noGoto_ret]
      go_returns
      have hB03 := hB02.out.trans (hb3.mono hB02.out.size)
      have hg := hT.lt
      refine ⟨⟨w2.heap.size, w.heap.size + 1 + 1, w.heap.size + 1, .slice none 0 0, .slice none 0 0, .slice none 0 0, [], fun _ => 0⟩, rfl, ⟨Nat.le_refl _, hbox3, hin2.out.below hb3, SetIs.nil, World.ownsRow_nil _ _ _ _, rfl, fun i b r h1 h2 => by simp at h1, List.nodup_nil, World.ownsRow_nil _ _ _ _, World.ownsRow_nil _ _ _ _, hT.below hB03, ?_, ?_⟩, ⟨rfl, rfl⟩, Wrote.of_below hB03, ?_⟩
      · simp [Lay.foot, blk, Value.ownBlock]; omega
      · exact ⟨hw, ⟨hr.2, by simp; omega⟩, ⟨hs.1, Int.le_trans hs.2 (by decide)⟩, hi, hc, fun r hr => by simp at hr, by simp [idsOf], by simp [idsOf]; omega⟩
      · intro x hx
        simp [Lay.foot, blk, Value.ownBlock] at hx
        right
        omega

set_option maxRecDepth 100000 in
set_option maxHeartbeats 400000 in
theorem out_New (window room : Int) (client : List UInt8) (w : World) (hT : TzAt w) (hw : 1 ≤ window ∧ window ≤ 100) (hr : 1 ≤ room ∧ room ≤ 1000) (hc : client.length ≤ 23) (hmay : sessMay (sessV client 0 1) = true) :
    Calls Tryz.prog 14 #[.string ⟨client.toArray⟩, .int .i64 window, .int .i64 room] w fun e w' => ∃ L, e = .returned (.tuple #[.pointer (some ⟨L.p, 0, none⟩), .int .i64 0]) ∧
      OB w' w'.heap.size L ⟨client, window, room, 0, 1, []⟩ [] [] ∧ (L.vp = .slice none 0 0 ∧ L.vc = .slice none 0 0) ∧ Stp [] L.foot w w' := by
  have CO := hid (out_Of window room client 0 1 w hT hw hr (by omega) (by omega) hc hmay)
  clear hmay
  unfold sessV RowV.vals at CO
  go_enter Tryz.func14, Tryz.ntmps14
  go_wp2_with (go_at_call 8; refine CO.out.mono ?_; rintro e w1 ⟨L, rfl, hO, hn, hS⟩)
  go_returns
  exact ⟨L, rfl, hO, hn, hS⟩

set_option maxRecDepth 100000 in
set_option maxHeartbeats 400000 in
theorem out_Len {w : World} {B : Nat} {L : Lay} {s : OS} {ps : List PackV} {cs : List ChangeV} (h : OB w B L s ps cs) :
    Calls Tryz.prog 12 #[.pointer (some ⟨L.p, 0, none⟩)] w fun e w' => e = .returned (.int .i64 s.l.length) ∧ w = w' := by
  have CN := hid (out_none h)
  obtain ⟨a, cap, hv, -⟩ := own_cell h.rows
  have k6 : w.cell? ⟨L.p, 6, none⟩ = some (.slice a s.l.length cap) := (h.box.cell 6).trans (by simp [boxCells, hv])
  go_enter Tryz.func12, Tryz.ntmps12
  go_wp2_with (go_at_call 31; refine CN.out.mono ?_; rintro e w1 ⟨rfl, rfl⟩)
  go_ret
  exact ⟨rfl, rfl⟩
end Go.Proofs.YtodbdojjllabmaaGreatDoor
namespace Go.Proofs.YtodbdojjllabmaaGreatDoor
open Go.RowKit Go.Shelf

theorem Blk.setCells {w : World} {g : Nat} {cur : Array Value} {T : TypeId} (h : Blk w g cur T) (vs : List Value) (o : Nat) (hfit : o + vs.length ≤ cur.size) :
    ∃ cur', Blk (w.setCells g o vs) g cur' T ∧ cur'.size = cur.size ∧ (∀ j, j < o → cur'[j]? = cur[j]?) ∧ (∀ j, j < vs.length → cur'[o + j]? = vs[j]?) ∧ Wrote [g] w (w.setCells g o vs) := by
  induction vs generalizing w cur o with
  | nil => exact ⟨cur, h, rfl, fun _ _ => rfl, fun j hj => absurd hj (Nat.not_lt_zero _), Wrote.refl _ _⟩
  | cons v vs ih =>
    rw [List.length_cons] at hfit
    have h1 := h.set o v
    obtain ⟨cur', b1, b2, b3, b4, b5⟩ := ih h1 (o + 1) (by simp; omega)
    refine ⟨cur', b1, by simpa using b2, fun j hj => ?_, fun j hj => ?_, (Wrote.setCell w ⟨g, o, none⟩ (by simp) v).trans b5⟩
    · rw [b3 j (by omega), Array.getElem?_setIfInBounds_ne (by omega)]
    · cases j with
      | zero =>
        rw [Nat.add_zero, b3 o (by omega)]
        simp [Array.getElem?_setIfInBounds]
        omega
      | succ j =>
        rw [show o + (j + 1) = o + 1 + j by omega, b4 j (by simpa using hj)]
        simp

/-- Packs in a block, from some place on. -/
structure WSeg (w : World) (B : Nat) (F : List Nat) (g off n cap : Nat) (xs : List Value) : Prop where
  base : B ≤ g
  out : g ∉ F
  seg : ∃ cur, Blk w g cur 45 ∧ off + cap * 24 ≤ cur.size ∧ ∀ j, j < n * 24 → cur[off + j]? = xs[j]?
/-- A slice of packs that has an address. -/
structure WAdr (w : World) (B : Nat) (F : List Nat) (v : Value) (n : Nat) (xs : List Value) (g off cap : Nat) : Prop where
  val : v = .slice (some ⟨g, off, none⟩) n cap
  len : xs.length = n * 24
  le : n ≤ cap
  seg : 0 < cap → WSeg w B F g off n cap xs
def WAt (w : World) (B : Nat) (F : List Nat) (v : Value) (n : Nat) (xs : List Value) : Prop := (v = .slice none 0 0 ∧ n = 0 ∧ xs = []) ∨ ∃ g off cap, WAdr w B F v n xs g off cap

theorem WSeg.step {w w' : World} {B : Nat} {F F' : List Nat} {g off n cap : Nat} {xs : List Value} (h : WSeg w B F g off n cap xs) (s : Stp F F' w w') : WSeg w' B F' g off n cap xs := by
  obtain ⟨cur, h1, h2, h3⟩ := h.seg
  exact ⟨h.base, s.not h.out h1.lt, cur, h1.wrote s.wrote h.out, h2, h3⟩
theorem WAt.step {w w' : World} {B : Nat} {F F' : List Nat} {v : Value} {n : Nat} {xs : List Value} (h : WAt w B F v n xs) (s : Stp F F' w w') : WAt w' B F' v n xs :=
  h.imp id fun ⟨g, off, cap, h⟩ => ⟨g, off, cap, h.val, h.len, h.le, fun hc => (h.seg hc).step s⟩
theorem WAdr.step {w w' : World} {B : Nat} {F F' : List Nat} {v : Value} {n : Nat} {xs : List Value} {g off cap : Nat} (h : WAdr w B F v n xs g off cap) (s : Stp F F' w w') : WAdr w' B F' v n xs g off cap :=
  ⟨h.val, h.len, h.le, fun hc => (h.seg hc).step s⟩
theorem WAt.slice {w : World} {B : Nat} {F : List Nat} {v : Value} {n : Nat} {xs : List Value} (h : WAt w B F v n xs) : ∃ a cap, v = .slice a n cap := by
  rcases h with ⟨rfl, rfl, _⟩ | ⟨g, off, cap, h⟩
  · exact ⟨_, _, rfl⟩
  · exact ⟨_, _, h.val⟩

/-- A row of one's own. -/
theorem WAt.of_own {w : World} {B base : Nat} {F : List Nat} {v : Value} {n : Nat} {xs : List Value} (h : w.ownsRow base 45 24 v n xs) (hB : B ≤ base) (hF : ∀ x ∈ F, x ∉ blk v) : WAt w B F v n xs := by
  obtain ⟨hl, ⟨rfl, rfl⟩ | ⟨g, cap, cur, rfl, hb, hg, hn, _, hs, ht⟩⟩ := h
  · exact .inl ⟨rfl, rfl, List.eq_nil_of_length_eq_zero (by simpa using hl)⟩
  · refine .inr ⟨g, 0, cap, rfl, hl, hn, fun _ => ⟨by omega, fun hx => hF g hx (by simp [blk, Value.ownBlock]), cur, hg, by omega, fun j hj => ?_⟩⟩
    rw [Nat.zero_add, ← ht, List.getElem?_take_of_lt hj]
    simp

/-- The first one's cells. -/
theorem WAdr.range {w : World} {B : Nat} {F : List Nat} {v : Value} {n : Nat} {xs : List Value} {g off cap : Nat} (h : WAdr w B F v n xs g off cap) (hn : 0 < n) (cs : List Value) (hc : cs.length = 24) (hx : ∀ j, j < 24 → xs[j]? = cs[j]?) : w.rangeAt g off cs := fun j u hj => by
  have hle := h.le
  obtain ⟨cur, h1, h2, h3⟩ := (h.seg (by omega)).seg
  have hj24 : j < 24 := by have := (List.getElem?_eq_some_iff.1 hj).1; omega
  rw [h1.cell (off + j), h3 j (by omega), hx j hj24, hj]

/-- The tail. -/
theorem WAdr.tail {w : World} {B : Nat} {F : List Nat} {v : Value} {n : Nat} {xs : List Value} {g off cap : Nat} (h : WAdr w B F v n xs g off cap) (hn : 0 < n) :
    ∃ off', (∀ W : World, (Instr.slice 31 v (some (.int .i64 1)) none none).run Tryz.prog W = .ok (.slice (some ⟨g, off', none⟩) (n - 1) (cap - 1)) W) ∧ WAdr w B F (.slice (some ⟨g, off', none⟩) (n - 1) (cap - 1)) (n - 1) (xs.drop 24) g off' (cap - 1) := by
  have hle := h.le
  have hlen := h.len
  have e := h.val
  subst e
  have hs : ∀ W, (sizeOf (Tryz.prog.elem 31)).run Tryz.prog W = .ok 24 W := fun W => by kernel_rfl
  have hr := fun W => run_slice_l W 31 (some ⟨g, off, none⟩) n cap (show Tryz.prog.underlying 31 = some (.slice (Tryz.prog.elem 31)) by kernel_rfl) .i64 1 (by omega) (by omega)
  obtain ⟨cur, h1, h2, h3⟩ := (h.seg (by omega)).seg
  by_cases hc : cap = 1
  · subst hc
    obtain rfl : n = 1 := by omega
    exact ⟨off, fun W => by rw [hr W, hs W]; simp [sliced, Result.andThen], rfl, by simp; omega, by omega, fun hx => absurd hx (by omega)⟩
  · refine ⟨off + 24, fun W => by rw [hr W, hs W]; simp [sliced, Result.andThen, hc, Addr.add], rfl, by simp; omega, by omega, fun _ => ⟨(h.seg (by omega)).base, (h.seg (by omega)).out, cur, h1, by omega, fun j hj => ?_⟩⟩
    rw [show off + 24 + j = off + (24 + j) by omega, h3 (24 + j) (by omega), List.getElem?_drop]

/-- More are appended. -/
theorem WAdr.append {w : World} {B : Nat} {F : List Nat} {v : Value} {n : Nat} {xs : List Value} {g off cap : Nat} (h : WAdr w B F v n xs g off cap) (hB : B ≤ w.heap.size) (hF : ∀ x ∈ F, x < w.heap.size) {base : Nat} {v2 : Value} {m : Nat} {ys : List Value} (h2 : w.ownsRow base 45 24 v2 m ys)
    (h1 : ∀ u ∈ ys, u.oneCell' = true) (hn : n + m ≤ 100000) :
    ∃ v' w' G, (Builtin.append_ #[31, 31] 31 #[v, v2]).run Tryz.prog w = .ok v' w' ∧ WAt w' B F v' (n + m) (xs ++ ys) ∧ Wrote G w w' ∧ (∀ x ∈ G, x ∉ F ∧ B ≤ x) := by
  obtain ⟨i, hi, hz0, hz1, hz2⟩ := info_parts ePack.info
  have hle := h.le
  have hlen := h.len
  have e := h.val
  subst e
  have nil : ∀ v2 : Value, v2 = .slice none 0 0 → m = 0 → ys = [] → ∃ v' w' G, (Builtin.append_ #[31, 31] 31 #[.slice (some ⟨g, off, none⟩) n cap, v2]).run Tryz.prog w = .ok v' w' ∧ WAt w' B F v' (n + m) (xs ++ ys) ∧ Wrote G w w' ∧ (∀ x ∈ G, x ∉ F ∧ B ≤ x) := by
    rintro v2 rfl rfl rfl
    have hs := Src.ofNil (P := Tryz.prog) (w := w) (size := i.size) ePack.ht 0
    have hr := run_append_room_src (P := Tryz.prog) w 31 31 31 45 i ePack.ht hi g off n cap _ 0 [] hs (by omega) (fun j hj => absurd hj (Nat.not_lt_zero _)) (fun j hj => absurd hj (Nat.not_lt_zero _))
    refine ⟨_, _, [], hr, .inr ⟨g, off, cap, ?_⟩, Wrote.refl _ _, fun x hx => by cases hx⟩
    simpa [World.setCells] using h
  obtain ⟨hl2, ⟨rfl, rfl⟩ | ⟨g2, cap2, cur2, rfl, _, hg2, _, _, hs2, ht2⟩⟩ := h2
  · exact nil _ rfl rfl (List.eq_nil_of_length_eq_zero (by simpa using hl2))
  · have hy : ∀ j u, ys[j]? = some u → w.cell? ((⟨g2, 0, none⟩ : Addr).add j) = some u := by
      intro j u hj
      rw [Addr.add_mid, Nat.zero_add]
      have hb : Blk w g2 cur2 45 := hg2
      rw [hb.cell j]
      rw [← ht2, List.getElem?_take] at hj
      split at hj
      · simpa using hj
      · cases hj
    by_cases hroom : n + m ≤ cap
    · rcases Nat.eq_zero_or_pos cap with hc0 | hc0
      · have hm0 : m = 0 := by omega
        have hy0 : ys = [] := List.eq_nil_of_length_eq_zero (by omega)
        subst hm0 hy0
        have hr := run_append_room_cells (P := Tryz.prog) w 31 31 45 i ePack.ht hi g off n cap ⟨g2, 0, none⟩ 0 cap2 [] (by simp) hy (by simp) (by omega) (fun j hj => absurd hj (Nat.not_lt_zero _)) (fun j hj => absurd hj (Nat.not_lt_zero _))
        refine ⟨_, _, [], hr, .inr ⟨g, off, cap, ?_⟩, Wrote.refl _ _, fun x hx => by cases hx⟩
        simpa [World.setCells] using h
      · have sg := h.seg hc0
        obtain ⟨cur, b1, b2, b3⟩ := sg.seg
        have e24 : i.size = 24 := hz1
        obtain ⟨cur', c1, c2, c3, c4, c5⟩ := b1.setCells ys (off + n * 24) (by omega)
        have hr := run_append_room_cells (P := Tryz.prog) w 31 31 45 i ePack.ht hi g off n cap ⟨g2, 0, none⟩ m cap2 ys (by rw [e24]; exact hl2) hy h1 hroom
          (fun j hj => by
            rw [b1.cell, e24]
            have : off + n * 24 + j < cur.size := by omega
            simp [this])
          (fun j hj => b1.frozen _)
        rw [e24] at hr
        refine ⟨_, _, [g], hr, .inr ⟨g, off, cap, rfl, by rw [List.length_append]; omega, hroom, fun _ => ⟨sg.base, sg.out, cur', c1, by omega, fun j hj => ?_⟩⟩, c5, fun x hx => by simp at hx; subst hx; exact ⟨sg.out, sg.base⟩⟩
        rcases Nat.lt_or_ge j (n * 24) with hj2 | hj2
        · rw [c3 _ (by omega), b3 j hj2, List.getElem?_append_left (by omega)]
        · rw [List.getElem?_append_right (by omega), show off + j = off + n * 24 + (j - n * 24) by omega, c4 _ (by omega), hlen]
    · have hx : ∀ j u, xs[j]? = some u → w.cell? ((⟨g, off, none⟩ : Addr).add j) = some u := by
        intro j u hj
        have hjl := (List.getElem?_eq_some_iff.1 hj).1
        obtain ⟨cur, b1, b2, b3⟩ := (h.seg (by omega)).seg
        rw [Addr.add_mid, b1.cell, b3 j (by omega), hj]
      obtain ⟨v', w', hr, ho, hg⟩ := run_append_arg_grows (P := Tryz.prog) w 31 31 45 i _ 24 280 ePack.ht hi hz0 hz1 hz2 ePack.hzs (by decide) ⟨g, off, none⟩ n cap xs hlen hx ⟨g2, 0, none⟩ m cap2 ys hl2 hy (by omega) (by unfold maxLen; omega) (by omega)
      refine ⟨v', w', [], hr, WAt.of_own ho hB (fun x hx hb => ?_), Wrote.of_grown hg (fun k hk => by cases hk), fun x hx => by cases hx⟩
      have := (ho.lt x (mem_blk.1 hb)).1
      have := hF x hx
      omega

/-- 'append(waits, more...)' in a walk. -/
theorem append_waits {w : World} {ops : Array Oper} {rest : List Oper} {o : Oper} {a : Act} {Q : Exit → Act → World → Prop} (hgd : o.guard = none) (s x : Operand)
    (ho : o.op = .call { callee := .builtin .append, args := #[s, x], argTypes := #[31, 31] }) (hty : o.type = 31)
    {B : Nat} {F : List Nat} {v : Value} {n : Nat} {xs : List Value} {g off cap : Nat} (h : WAdr w B F v n xs g off cap) (hB : B ≤ w.heap.size) (hF : ∀ x ∈ F, x < w.heap.size) {base : Nat} {v2 : Value} {m : Nat} {ys : List Value} (h2 : w.ownsRow base 45 24 v2 m ys)
    (h1 : ∀ u ∈ ys, u.oneCell' = true) (hn : n + m ≤ 100000) (hs : a.eval s = v) (hx : a.eval x = v2)
    (hh : ∀ v' w' G, WAt w' B F v' (n + m) (xs ++ ys) → Wrote G w w' → (∀ x ∈ G, x ∉ F ∧ B ≤ x) → wpList Tryz.prog ops Q rest (a.put o.dst v') w') : wpList Tryz.prog ops Q (o :: rest) a w := by
  refine wpList_plain hgd fun K hK => ?_
  obtain ⟨v', w', G, hr, h3, h4, h5⟩ := h.append hB hF h2 h1 hn
  rw [← hty] at hr
  unfold Oper.wp execOp
  simp only [ho, resolve, invoke, builtin, Sem.run_bind, Sem.run_pure, Result.andThen_ok, List.map_toArray, List.map_cons, List.map_nil, hs, hx]
  rw [show (#[31, 31] : Array TypeId) = #[o.type, o.type] by rw [hty]]
  rw [hty] at hr ⊢
  simp only [hr, Sem.run_bind, Sem.run_pure, Result.andThen_ok]
  exact hK _ _ (hh v' w' G h3 h4 h5)
end Go.Proofs.YtodbdojjllabmaaGreatDoor
