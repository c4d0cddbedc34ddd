/- Are two packets the same? · Elements of a row of one's own, as cells in the middle of a block. · Is what was done the same? · A call of an outbox, whatever it is; and of the reference's empty one. · The calls of a law, in memory; are they few? · Contracts of the reference of layer 12: May, six, Raw. -/
import Derived.Test.YtoinabapaeebfaaGreatDoorPk14
import Derived.Deep.Cut
import Derived.Test.YtoinabapaeebfaaGreatDoorPk12
import Derived.Test.YtoinabapaeebfaaGreatDoorPk07
import Derived.Deep.QuietTactic
import Derived.BigQuiet
import Derived.Test.YtoinabapaeebfaaGreatDoorPk03
set_option linter.unusedSimpArgs false
set_option linter.unusedVariables false
namespace Go.Proofs.YtoinabapaeebfaaGreatDoor
open Go.RowKit Go.Shelf

set_option maxRecDepth 100000 in
set_option maxHeartbeats 2000000 in
theorem r_Same_refl (p : PackV) (w : World) :
    Calls Tryz.prog 59 #[.agg p.cells.toArray, .agg p.cells.toArray] w fun e w' => e = .returned (.bool true) ∧ Below w.heap.size w w' := by
  obtain ⟨q, hq⟩ : ∃ q, q = p := ⟨_, rfl⟩
  obtain ⟨W, hW⟩ : ∃ W, W = (w.alloc (.cells p.cells.toArray 81)).alloc (.cells q.cells.toArray 81) := ⟨_, rfl⟩
  have pB : Blk W w.heap.size p.cells.toArray 81 := by rw [hW]; exact (Blk.new w _ _).alloc _
  have qB : Blk W (w.heap.size + 1) q.cells.toArray 81 := by rw [hW]; exact Blk.new_at _ _ _ _ (by simp)
  have B4 : Below w.heap.size w W := by
    rw [hW]
    repeat (first | exact Below.refl _ _ | (refine Below.setCell ?_ (by simp <;> omega) _) | (refine Below.alloc ?_ (by simp <;> omega) _) | refine Below.drew ?_)
  rw [hq] at qB hW
  have p0 : W.cell? ⟨w.heap.size, 0, none⟩ = some (.int .i64 p.kind) := pB.cell 0
  have p1 : W.cell? ⟨w.heap.size, 1, none⟩ = some (.bool p.dup) := pB.cell 1
  have p2 : W.cell? ⟨w.heap.size, 2, none⟩ = some (.bool p.retain) := pB.cell 2
  have p3 : W.cell? ⟨w.heap.size, 3, none⟩ = some (.int .i64 p.qos) := pB.cell 3
  have p4 : W.cell? ⟨w.heap.size, 4, none⟩ = some (.string ⟨p.topic.toArray⟩) := pB.cell 4
  have p5 : W.cell? ⟨w.heap.size, 5, none⟩ = some (.string ⟨p.body.toArray⟩) := pB.cell 5
  have p6 : W.cell? ⟨w.heap.size, 6, none⟩ = some (.int .i64 p.id) := pB.cell 6
  have p7 : W.cell? ⟨w.heap.size, 7, none⟩ = some (.string ⟨#[]⟩) := pB.cell 7
  have p8 : W.cell? ⟨w.heap.size, 8, none⟩ = some (.bool false) := pB.cell 8
  have p9 : W.cell? ⟨w.heap.size, 9, none⟩ = some (.int .i64 0) := pB.cell 9
  have p10 : W.cell? ⟨w.heap.size, 10, none⟩ = some (.bool false) := pB.cell 10
  have p11 : W.cell? ⟨w.heap.size, 11, none⟩ = some (.string ⟨#[]⟩) := pB.cell 11
  have p12 : W.cell? ⟨w.heap.size, 12, none⟩ = some (.string ⟨#[]⟩) := pB.cell 12
  have p13 : W.cell? ⟨w.heap.size, 13, none⟩ = some (.int .i64 0) := pB.cell 13
  have p14 : W.cell? ⟨w.heap.size, 14, none⟩ = some (.bool false) := pB.cell 14
  have p15 : W.cell? ⟨w.heap.size, 15, none⟩ = some (.bool false) := pB.cell 15
  have p16 : W.cell? ⟨w.heap.size, 16, none⟩ = some (.bool false) := pB.cell 16
  have p17 : W.cell? ⟨w.heap.size, 17, none⟩ = some (.string ⟨#[]⟩) := pB.cell 17
  have p18 : W.cell? ⟨w.heap.size, 18, none⟩ = some (.string ⟨#[]⟩) := pB.cell 18
  have p19 : W.cell? ⟨w.heap.size, 19, none⟩ = some (.bool false) := pB.cell 19
  have p20 : W.cell? ⟨w.heap.size, 20, none⟩ = some (.int .i64 0) := pB.cell 20
  have p21 : W.cell? ⟨w.heap.size, 21, none⟩ = some (.slice none 0 0) := pB.cell 21
  have p22 : W.cell? ⟨w.heap.size, 22, none⟩ = some (.slice none 0 0) := pB.cell 22
  have p23 : W.cell? ⟨w.heap.size, 23, none⟩ = some (.slice none 0 0) := pB.cell 23
  have q0 : W.cell? ⟨w.heap.size + 1, 0, none⟩ = some (.int .i64 p.kind) := qB.cell 0
  have q1 : W.cell? ⟨w.heap.size + 1, 1, none⟩ = some (.bool p.dup) := qB.cell 1
  have q2 : W.cell? ⟨w.heap.size + 1, 2, none⟩ = some (.bool p.retain) := qB.cell 2
  have q3 : W.cell? ⟨w.heap.size + 1, 3, none⟩ = some (.int .i64 p.qos) := qB.cell 3
  have q4 : W.cell? ⟨w.heap.size + 1, 4, none⟩ = some (.string ⟨p.topic.toArray⟩) := qB.cell 4
  have q5 : W.cell? ⟨w.heap.size + 1, 5, none⟩ = some (.string ⟨p.body.toArray⟩) := qB.cell 5
  have q6 : W.cell? ⟨w.heap.size + 1, 6, none⟩ = some (.int .i64 p.id) := qB.cell 6
  have q7 : W.cell? ⟨w.heap.size + 1, 7, none⟩ = some (.string ⟨#[]⟩) := qB.cell 7
  have q8 : W.cell? ⟨w.heap.size + 1, 8, none⟩ = some (.bool false) := qB.cell 8
  have q9 : W.cell? ⟨w.heap.size + 1, 9, none⟩ = some (.int .i64 0) := qB.cell 9
  have q10 : W.cell? ⟨w.heap.size + 1, 10, none⟩ = some (.bool false) := qB.cell 10
  have q11 : W.cell? ⟨w.heap.size + 1, 11, none⟩ = some (.string ⟨#[]⟩) := qB.cell 11
  have q12 : W.cell? ⟨w.heap.size + 1, 12, none⟩ = some (.string ⟨#[]⟩) := qB.cell 12
  have q13 : W.cell? ⟨w.heap.size + 1, 13, none⟩ = some (.int .i64 0) := qB.cell 13
  have q14 : W.cell? ⟨w.heap.size + 1, 14, none⟩ = some (.bool false) := qB.cell 14
  have q15 : W.cell? ⟨w.heap.size + 1, 15, none⟩ = some (.bool false) := qB.cell 15
  have q16 : W.cell? ⟨w.heap.size + 1, 16, none⟩ = some (.bool false) := qB.cell 16
  have q17 : W.cell? ⟨w.heap.size + 1, 17, none⟩ = some (.string ⟨#[]⟩) := qB.cell 17
  have q18 : W.cell? ⟨w.heap.size + 1, 18, none⟩ = some (.string ⟨#[]⟩) := qB.cell 18
  have q19 : W.cell? ⟨w.heap.size + 1, 19, none⟩ = some (.bool false) := qB.cell 19
  have q20 : W.cell? ⟨w.heap.size + 1, 20, none⟩ = some (.int .i64 0) := qB.cell 20
  have q21 : W.cell? ⟨w.heap.size + 1, 21, none⟩ = some (.slice none 0 0) := qB.cell 21
  have q22 : W.cell? ⟨w.heap.size + 1, 22, none⟩ = some (.slice none 0 0) := qB.cell 22
  have q23 : W.cell? ⟨w.heap.size + 1, 23, none⟩ = some (.slice none 0 0) := qB.cell 23
  clear pB qB hq
  go_enter Tryz.func59, Tryz.ntmps59
  go_upto_region 1 with (fail)
  rw [← hW]
  clear hW
  go_wp2
  go_loopw [5] (fun i wr => i = .int .i64 0 ∧ W = wr) (fun _ _ => 0)
  case atStart => exact ⟨rfl, rfl⟩
  case round =>
    obtain ⟨rfl, rfl⟩ := hrel
    go_wp2
    go_loopw [6] (fun i wr => i = .int .i64 0 ∧ W = wr) (fun _ _ => 0)
    case atStart => exact ⟨rfl, rfl⟩
    case round =>
      obtain ⟨rfl, rfl⟩ := hrel
      go_wp2
      go_loopw [7] (fun i wr => i = .int .i64 0 ∧ W = wr) (fun _ _ => 0)
      case atStart => exact ⟨rfl, rfl⟩
      case round =>
        obtain ⟨rfl, rfl⟩ := hrel
        go_wp2
        go_ret
        exact ⟨rfl, B4⟩
set_option maxRecDepth 100000 in
set_option maxHeartbeats 2000000 in
theorem r_Same_any (p q : PackV) (w : World) :
    Calls Tryz.prog 59 #[.agg p.cells.toArray, .agg q.cells.toArray] w fun e w' => (∃ b, e = .returned (.bool b)) ∧ Below w.heap.size w w' := by
  obtain ⟨W, hW⟩ : ∃ W, W = (w.alloc (.cells p.cells.toArray 81)).alloc (.cells q.cells.toArray 81) := ⟨_, rfl⟩
  have pB : Blk W w.heap.size p.cells.toArray 81 := by rw [hW]; exact (Blk.new w _ _).alloc _
  have qB : Blk W (w.heap.size + 1) q.cells.toArray 81 := by rw [hW]; exact Blk.new_at _ _ _ _ (by simp)
  have B4 : Below w.heap.size w W := by
    rw [hW]
    repeat (first | exact Below.refl _ _ | (refine Below.setCell ?_ (by simp <;> omega) _) | (refine Below.alloc ?_ (by simp <;> omega) _) | refine Below.drew ?_)
  have p0 : W.cell? ⟨w.heap.size, 0, none⟩ = some (.int .i64 p.kind) := pB.cell 0
  have p1 : W.cell? ⟨w.heap.size, 1, none⟩ = some (.bool p.dup) := pB.cell 1
  have p2 : W.cell? ⟨w.heap.size, 2, none⟩ = some (.bool p.retain) := pB.cell 2
  have p3 : W.cell? ⟨w.heap.size, 3, none⟩ = some (.int .i64 p.qos) := pB.cell 3
  have p4 : W.cell? ⟨w.heap.size, 4, none⟩ = some (.string ⟨p.topic.toArray⟩) := pB.cell 4
  have p5 : W.cell? ⟨w.heap.size, 5, none⟩ = some (.string ⟨p.body.toArray⟩) := pB.cell 5
  have p6 : W.cell? ⟨w.heap.size, 6, none⟩ = some (.int .i64 p.id) := pB.cell 6
  have p7 : W.cell? ⟨w.heap.size, 7, none⟩ = some (.string ⟨#[]⟩) := pB.cell 7
  have p8 : W.cell? ⟨w.heap.size, 8, none⟩ = some (.bool false) := pB.cell 8
  have p9 : W.cell? ⟨w.heap.size, 9, none⟩ = some (.int .i64 0) := pB.cell 9
  have p10 : W.cell? ⟨w.heap.size, 10, none⟩ = some (.bool false) := pB.cell 10
  have p11 : W.cell? ⟨w.heap.size, 11, none⟩ = some (.string ⟨#[]⟩) := pB.cell 11
  have p12 : W.cell? ⟨w.heap.size, 12, none⟩ = some (.string ⟨#[]⟩) := pB.cell 12
  have p13 : W.cell? ⟨w.heap.size, 13, none⟩ = some (.int .i64 0) := pB.cell 13
  have p14 : W.cell? ⟨w.heap.size, 14, none⟩ = some (.bool false) := pB.cell 14
  have p15 : W.cell? ⟨w.heap.size, 15, none⟩ = some (.bool false) := pB.cell 15
  have p16 : W.cell? ⟨w.heap.size, 16, none⟩ = some (.bool false) := pB.cell 16
  have p17 : W.cell? ⟨w.heap.size, 17, none⟩ = some (.string ⟨#[]⟩) := pB.cell 17
  have p18 : W.cell? ⟨w.heap.size, 18, none⟩ = some (.string ⟨#[]⟩) := pB.cell 18
  have p19 : W.cell? ⟨w.heap.size, 19, none⟩ = some (.bool false) := pB.cell 19
  have p20 : W.cell? ⟨w.heap.size, 20, none⟩ = some (.int .i64 0) := pB.cell 20
  have p21 : W.cell? ⟨w.heap.size, 21, none⟩ = some (.slice none 0 0) := pB.cell 21
  have p22 : W.cell? ⟨w.heap.size, 22, none⟩ = some (.slice none 0 0) := pB.cell 22
  have p23 : W.cell? ⟨w.heap.size, 23, none⟩ = some (.slice none 0 0) := pB.cell 23
  have q0 : W.cell? ⟨w.heap.size + 1, 0, none⟩ = some (.int .i64 q.kind) := qB.cell 0
  have q1 : W.cell? ⟨w.heap.size + 1, 1, none⟩ = some (.bool q.dup) := qB.cell 1
  have q2 : W.cell? ⟨w.heap.size + 1, 2, none⟩ = some (.bool q.retain) := qB.cell 2
  have q3 : W.cell? ⟨w.heap.size + 1, 3, none⟩ = some (.int .i64 q.qos) := qB.cell 3
  have q4 : W.cell? ⟨w.heap.size + 1, 4, none⟩ = some (.string ⟨q.topic.toArray⟩) := qB.cell 4
  have q5 : W.cell? ⟨w.heap.size + 1, 5, none⟩ = some (.string ⟨q.body.toArray⟩) := qB.cell 5
  have q6 : W.cell? ⟨w.heap.size + 1, 6, none⟩ = some (.int .i64 q.id) := qB.cell 6
  have q7 : W.cell? ⟨w.heap.size + 1, 7, none⟩ = some (.string ⟨#[]⟩) := qB.cell 7
  have q8 : W.cell? ⟨w.heap.size + 1, 8, none⟩ = some (.bool false) := qB.cell 8
  have q9 : W.cell? ⟨w.heap.size + 1, 9, none⟩ = some (.int .i64 0) := qB.cell 9
  have q10 : W.cell? ⟨w.heap.size + 1, 10, none⟩ = some (.bool false) := qB.cell 10
  have q11 : W.cell? ⟨w.heap.size + 1, 11, none⟩ = some (.string ⟨#[]⟩) := qB.cell 11
  have q12 : W.cell? ⟨w.heap.size + 1, 12, none⟩ = some (.string ⟨#[]⟩) := qB.cell 12
  have q13 : W.cell? ⟨w.heap.size + 1, 13, none⟩ = some (.int .i64 0) := qB.cell 13
  have q14 : W.cell? ⟨w.heap.size + 1, 14, none⟩ = some (.bool false) := qB.cell 14
  have q15 : W.cell? ⟨w.heap.size + 1, 15, none⟩ = some (.bool false) := qB.cell 15
  have q16 : W.cell? ⟨w.heap.size + 1, 16, none⟩ = some (.bool false) := qB.cell 16
  have q17 : W.cell? ⟨w.heap.size + 1, 17, none⟩ = some (.string ⟨#[]⟩) := qB.cell 17
  have q18 : W.cell? ⟨w.heap.size + 1, 18, none⟩ = some (.string ⟨#[]⟩) := qB.cell 18
  have q19 : W.cell? ⟨w.heap.size + 1, 19, none⟩ = some (.bool false) := qB.cell 19
  have q20 : W.cell? ⟨w.heap.size + 1, 20, none⟩ = some (.int .i64 0) := qB.cell 20
  have q21 : W.cell? ⟨w.heap.size + 1, 21, none⟩ = some (.slice none 0 0) := qB.cell 21
  have q22 : W.cell? ⟨w.heap.size + 1, 22, none⟩ = some (.slice none 0 0) := qB.cell 22
  have q23 : W.cell? ⟨w.heap.size + 1, 23, none⟩ = some (.slice none 0 0) := qB.cell 23
  clear pB qB
  go_enter Tryz.func59, Tryz.ntmps59
  go_upto_region 1 with (fail)
  rw [← hW]
  clear hW
  go_wp2
  go_loopw [5] (fun i wr => i = .int .i64 0 ∧ W = wr) (fun _ _ => 0)
  case atStart => exact ⟨rfl, rfl⟩
  case round =>
    obtain ⟨rfl, rfl⟩ := hrel
    go_wp2
    go_loopw [6] (fun i wr => i = .int .i64 0 ∧ W = wr) (fun _ _ => 0)
    case atStart => exact ⟨rfl, rfl⟩
    case round =>
      obtain ⟨rfl, rfl⟩ := hrel
      go_wp2
      go_loopw [7] (fun i wr => i = .int .i64 0 ∧ W = wr) (fun _ _ => 0)
      case atStart => exact ⟨rfl, rfl⟩
      case round =>
        obtain ⟨rfl, rfl⟩ := hrel
        go_wp2
        all_goals (go_ret; exact ⟨⟨_, rfl⟩, B4⟩)
end Go.Proofs.YtoinabapaeebfaaGreatDoor
namespace Go.Proofs.YtoinabapaeebfaaGreatDoor
open Go.RowKit Go.Shelf

theorem flat_get {α : Type} (f : α → List Value) (size : Nat) (hf : ∀ x, (f x).length = size) : ∀ (l : List α) (k j : Nat) (x : α), l[k]? = some x → j < size → (l.flatMap f)[k * size + j]? = (f x)[j]?
  | [], k, j, x, h, _ => by simp at h
  | y :: l, 0, j, x, h, hj => by
    simp only [List.getElem?_cons_zero, Option.some.injEq] at h
    subst h
    rw [List.flatMap_cons, Nat.zero_mul, Nat.zero_add, List.getElem?_append_left (by rw [hf]; exact hj)]
  | y :: l, k + 1, j, x, h, hj => by
    rw [List.getElem?_cons_succ] at h
    rw [List.flatMap_cons, List.getElem?_append_right (by rw [hf, Nat.add_mul]; omega), hf, show (k + 1) * size + j - size = k * size + j by rw [Nat.add_mul]; omega]
    exact flat_get f size hf l k j x h hj
theorem own_range {α : Type} (f : α → List Value) {size : Nat} (hf : ∀ x, (f x).length = size) {w : World} {base : Nat} {e : TypeId} {a : Option Addr} {cap : Nat} {l : List α} {n : Nat} (hn : l.length = n) (h : w.ownsRow base e size (.slice a n cap) n (l.flatMap f)) {k : Nat} {x : α} (hx : l[k]? = some x) :
    ∃ g, a = some ⟨g, 0, none⟩ ∧ n ≤ cap ∧ w.rangeAt g (k * size) (f x) := by
  have hk := (List.getElem?_eq_some_iff.1 hx).1
  have hc := fun g => h.cells (g := g)
  obtain ⟨_, ⟨he, h0⟩ | ⟨g, cap', cur, he, _, _, hn, _⟩⟩ := h
  · omega
  · cases he
    refine ⟨g, rfl, hn, fun j v hj => ?_⟩
    have hjs : j < size := by have := (List.getElem?_eq_some_iff.1 hj).1; rw [hf] at this; exact this
    have := hc g rfl (k * size + j) v (by rw [flat_get f size hf l k j x hx hjs]; exact hj)
    rw [Addr.add_mid, Nat.zero_add] at this
    exact this
theorem PackV.len (p : PackV) : p.cells.length = 24 := rfl
theorem ChangeV.len (c : ChangeV) : c.cells.length = 10 := rfl
end Go.Proofs.YtoinabapaeebfaaGreatDoor
namespace Go.Proofs.YtoinabapaeebfaaGreatDoor
open Go.RowKit Go.Shelf

theorem wp_world {P : Program} {c : Code} {Q : Exit → Act → World → Prop} {a : Act} {X W : World} (h : X = W) (hw : c.wp P Q a W) : c.wp P Q a X := h ▸ hw
set_option maxRecDepth 100000 in
set_option maxHeartbeats 2000000 in
theorem r_SameDid (ps qs : List PackV) (cs ds : List ChangeV) (a1 a2 a3 a4 : Option Addr) (k1 k2 k3 k4 : Nat) (w : World)
    (h1 : w.ownsRow 0 81 24 (.slice a1 ps.length k1) ps.length (ps.flatMap PackV.cells)) (h2 : w.ownsRow 0 115 10 (.slice a2 cs.length k2) cs.length (cs.flatMap ChangeV.cells))
    (h3 : w.ownsRow 0 81 24 (.slice a3 qs.length k3) qs.length (qs.flatMap PackV.cells)) (h4 : w.ownsRow 0 115 10 (.slice a4 ds.length k4) ds.length (ds.flatMap ChangeV.cells))
    (hc : cs.length = ds.length → cs = ds) (hps : ps.length ≤ 100000) (hcs : cs.length ≤ 100000) :
    Calls Tryz.prog 18 #[.agg #[.slice a1 ps.length k1, .slice a2 cs.length k2], .agg #[.slice a3 qs.length k3, .slice a4 ds.length k4]] w fun e w' => (∃ b, e = .returned (.bool b) ∧ (ps = qs → cs = ds → b = true)) ∧ Below w.heap.size w w' := by
  have bel : Below w.heap.size w ((w.alloc (.cells #[.slice a1 ps.length k1, .slice a2 cs.length k2] 53)).alloc (.cells #[.slice a3 qs.length k3, .slice a4 ds.length k4] 53)) := by
    repeat (first | exact Below.refl _ _ | (refine Below.setCell ?_ (by simp <;> omega) _) | (refine Below.alloc ?_ (by simp <;> omega) _) | refine Below.drew ?_)
  by_cases e1 : ps.length = qs.length
  · by_cases e2 : cs.length = ds.length
    · obtain rfl := hc e2
      rw [← e1] at h3 bel ⊢
      have H1 := hid h1; have H2 := hid h2; have H3 := hid h3; have H4 := hid h4
      have SA := hid r_Same_any
      have SR := hid r_Same_refl
      clear h1 h2 h3 h4 hc
      replace e1 := hid e1
      clear e2
      have z1 : ((ps.length : Int) != (ps.length : Int)) = false := by simp
      have z2 : ((cs.length : Int) != (cs.length : Int)) = false := by simp
      obtain ⟨W, hW⟩ : ∃ W, W = ((w.alloc (.cells #[.slice a1 ps.length k1, .slice a2 cs.length k2] 53)).alloc (.cells #[.slice a3 ps.length k3, .slice a4 cs.length k4] 53)) := ⟨_, rfl⟩
      rw [← hW] at bel
      have B1 : Blk W w.heap.size #[.slice a1 ps.length k1, .slice a2 cs.length k2] 53 := by rw [hW]; exact (Blk.new w _ _).alloc _
      have B2 : Blk W (w.heap.size + 1) #[.slice a3 ps.length k3, .slice a4 cs.length k4] 53 := by rw [hW]; exact Blk.new_at _ _ _ _ (by simp)
      have bel := hid bel
      have f0 : W.cell? ⟨w.heap.size, 0, none⟩ = some (.slice a1 ps.length k1) := B1.cell 0
      have f1 : W.cell? ⟨w.heap.size, 1, none⟩ = some (.slice a2 cs.length k2) := B1.cell 1
      have f2 : W.cell? ⟨w.heap.size + 1, 0, none⟩ = some (.slice a3 ps.length k3) := B2.cell 0
      have f3 : W.cell? ⟨w.heap.size + 1, 1, none⟩ = some (.slice a4 cs.length k4) := B2.cell 1
      have B1 := hid B1; have B2 := hid B2
      go_enter Tryz.func18, Tryz.ntmps18
      go_upto_region 1 with (fail)
      refine wp_world hW.symm ?_
      clear hW
      go_wp2
      go_loopw [5] (fun i wr => ∃ k : Nat, i = .int .i64 k ∧ k ≤ ps.length ∧ Hid (Below W.heap.size W wr)) (fun i _ => ps.length - (intOf i).toNat)
      case atStart => exact ⟨0, rfl, Nat.zero_le _, hid (Below.refl _ _)⟩
      case round =>
        obtain ⟨k, rfl, hk, hb⟩ := hrel
        have g0 : wr.cell? ⟨w.heap.size, 0, none⟩ = some (.slice a1 ps.length k1) := (B1.out.below hb.out).cell 0
        have g2 : wr.cell? ⟨w.heap.size + 1, 0, none⟩ = some (.slice a3 ps.length k3) := (B2.out.below hb.out).cell 0
        rcases Nat.lt_or_ge k ps.length with hlt | hge
        · have dk : decide ((k : Int) < (ps.length : Int)) = true := decide_eq_true (by omega)
          obtain ⟨p, hp⟩ : ∃ p, ps[k]? = some p := ⟨_, List.getElem?_eq_getElem hlt⟩
          obtain ⟨q, hq⟩ : ∃ q, qs[k]? = some q := ⟨_, List.getElem?_eq_getElem (by have := e1.out; omega)⟩
          have hbw := hid (bel.out.trans (hb.out.mono bel.out.size))
          obtain ⟨ga, rfl, la, ra⟩ := own_range PackV.cells PackV.len rfl (ownsRow_below H1.out hbw.out) hp
          obtain ⟨gb, rfl, lb, rb⟩ := own_range PackV.cells PackV.len e1.out.symm (ownsRow_below H3.out hbw.out) hq
          by_cases hpq : p = q
          · subst hpq
            have CALL := hid fun w => (r_Same_refl p w)
            have hp := hid hp; have hq := hid hq
            have ra := hid ra; have rb := hid rb
            go_wp2_with fail
            have g0 := hid g0; have g2 := hid g2
            refine regionQ [(10, fun w' => w'.cell? ⟨w.heap.size, 0, none⟩ = some (.slice (some ⟨ga, 0, none⟩) ps.length k1)), (10, fun w' => w'.cell? ⟨w.heap.size + 1, 0, none⟩ = some (.slice (some ⟨gb, 0, none⟩) ps.length k3)), (10, fun w' => w'.rangeAt ga (k * 24) p.cells), (10, fun w' => w'.rangeAt gb (k * 24) p.cells)] (by kernel_rfl) ⟨g0.out, g2.out, ra.out, rb.out, trivial⟩ fun KQ hKQ => ?_
            refine takeQ 0 rfl (by kernel_rfl) rfl (by kernel_rfl) fun K hK => ?_
            simp only [List.getElem_toArray, List.getElem_cons_zero, List.getElem_cons_succ]
            go_big_quiet_op
            refine hK _ ?_
            clear hK K
            refine loadT 1 rfl (by kernel_rfl) (by kernel_rfl) rfl rfl 0 rfl (by kernel_rfl) _ (fun w' hf => by (go_simp <;> with_reducible rfl)) ?_
            simp only [Act.put, List.getElem_toArray, List.getElem_cons_zero, List.getElem_cons_succ, List.setIfInBounds_toArray, List.set_cons_zero, List.set_cons_succ]
            refine takeQ 2 rfl (by kernel_rfl) rfl (by kernel_rfl) fun K hK => ?_
            simp only [List.getElem_toArray, List.getElem_cons_zero, List.getElem_cons_succ]
            go_big_quiet_op
            refine hK _ ?_
            clear hK K
            refine takeQ 3 rfl (by kernel_rfl) rfl (by kernel_rfl) fun K hK => ?_
            simp only [List.getElem_toArray, List.getElem_cons_zero, List.getElem_cons_succ]
            go_big_quiet_op
            refine hK _ ?_
            clear hK K
            refine loadQ 4 rfl (by kernel_rfl) (by kernel_rfl) rfl rfl 2 rfl (by kernel_rfl) (.agg (p.cells : List Value).toArray) (fun w' hf => run_loadAt_mid w' _ _ 81 (p.cells : List Value) _ hf Tryz.underlying81 rfl (by kernel_rfl)) ?_
            simp only [Act.put, List.getElem_toArray, List.getElem_cons_zero, List.getElem_cons_succ, List.setIfInBounds_toArray, List.set_cons_zero, List.set_cons_succ]
            refine takeQ 5 rfl (by kernel_rfl) rfl (by kernel_rfl) fun K hK => ?_
            simp only [List.getElem_toArray, List.getElem_cons_zero, List.getElem_cons_succ]
            go_big_quiet_op
            refine hK _ ?_
            clear hK K
            refine loadT 6 rfl (by kernel_rfl) (by kernel_rfl) rfl rfl 1 rfl (by kernel_rfl) _ (fun w' hf => by (go_simp <;> with_reducible rfl)) ?_
            simp only [Act.put, List.getElem_toArray, List.getElem_cons_zero, List.getElem_cons_succ, List.setIfInBounds_toArray, List.set_cons_zero, List.set_cons_succ]
            refine takeQ 7 rfl (by kernel_rfl) rfl (by kernel_rfl) fun K hK => ?_
            simp only [List.getElem_toArray, List.getElem_cons_zero, List.getElem_cons_succ]
            go_big_quiet_op
            refine hK _ ?_
            clear hK K
            refine takeQ 8 rfl (by kernel_rfl) rfl (by kernel_rfl) fun K hK => ?_
            simp only [List.getElem_toArray, List.getElem_cons_zero, List.getElem_cons_succ]
            go_big_quiet_op
            refine hK _ ?_
            clear hK K
            refine loadQ 9 rfl (by kernel_rfl) (by kernel_rfl) rfl rfl 3 rfl (by kernel_rfl) (.agg (p.cells : List Value).toArray) (fun w' hf => run_loadAt_mid w' _ _ 81 (p.cells : List Value) _ hf Tryz.underlying81 rfl (by kernel_rfl)) ?_
            simp only [Act.put, List.getElem_toArray, List.getElem_cons_zero, List.getElem_cons_succ, List.setIfInBounds_toArray, List.set_cons_zero, List.set_cons_succ]
            have hp := hp.out; have hq := hq.out
            refine stepQ 10 rfl (by kernel_rfl) (by decide) (by kernel_rfl) fun K hK => ?_
            simp only [List.getElem_toArray, List.getElem_cons_zero, List.getElem_cons_succ]
            go_simp
            refine (CALL.out _).mono ?_
            rintro e w1 ⟨rfl, hb1⟩
            have hb2 := hid (hb.out.drew.trans (hb1.mono hb.out.drew.size))
            refine hK _ _ ⟨⟨fun h => (by simp at h), fun h => (by simp at h), fun h => (by simp at h), fun h => (by simp at h), trivial⟩, ?_⟩
            clear hK K
            refine takeQ 11 rfl (by kernel_rfl) rfl (by kernel_rfl) fun K hK => ?_
            simp only [List.getElem_toArray, List.getElem_cons_zero, List.getElem_cons_succ]
            go_big_quiet_op
            refine hK _ ?_
            clear hK K
            refine doneQ (by kernel_rfl) (hKQ.out _ _ ?_)
            clear hKQ KQ
            go_wp2
            go_roundw
            case rel => exact ⟨k + 1, by go_num, by omega, hb2⟩
            case measure => simp [intOf]; omega
          · have hpq := hid hpq
            have CALL := hid fun w => (r_Same_any p q w)
            have hp := hid hp; have hq := hid hq
            have ra := hid ra; have rb := hid rb
            go_wp2_with fail
            have g0 := hid g0; have g2 := hid g2
            refine regionQ [(10, fun w' => w'.cell? ⟨w.heap.size, 0, none⟩ = some (.slice (some ⟨ga, 0, none⟩) ps.length k1)), (10, fun w' => w'.cell? ⟨w.heap.size + 1, 0, none⟩ = some (.slice (some ⟨gb, 0, none⟩) ps.length k3)), (10, fun w' => w'.rangeAt ga (k * 24) p.cells), (10, fun w' => w'.rangeAt gb (k * 24) q.cells)] (by kernel_rfl) ⟨g0.out, g2.out, ra.out, rb.out, trivial⟩ fun KQ hKQ => ?_
            refine takeQ 0 rfl (by kernel_rfl) rfl (by kernel_rfl) fun K hK => ?_
            simp only [List.getElem_toArray, List.getElem_cons_zero, List.getElem_cons_succ]
            go_big_quiet_op
            refine hK _ ?_
            clear hK K
            refine loadT 1 rfl (by kernel_rfl) (by kernel_rfl) rfl rfl 0 rfl (by kernel_rfl) _ (fun w' hf => by (go_simp <;> with_reducible rfl)) ?_
            simp only [Act.put, List.getElem_toArray, List.getElem_cons_zero, List.getElem_cons_succ, List.setIfInBounds_toArray, List.set_cons_zero, List.set_cons_succ]
            refine takeQ 2 rfl (by kernel_rfl) rfl (by kernel_rfl) fun K hK => ?_
            simp only [List.getElem_toArray, List.getElem_cons_zero, List.getElem_cons_succ]
            go_big_quiet_op
            refine hK _ ?_
            clear hK K
            refine takeQ 3 rfl (by kernel_rfl) rfl (by kernel_rfl) fun K hK => ?_
            simp only [List.getElem_toArray, List.getElem_cons_zero, List.getElem_cons_succ]
            go_big_quiet_op
            refine hK _ ?_
            clear hK K
            refine loadQ 4 rfl (by kernel_rfl) (by kernel_rfl) rfl rfl 2 rfl (by kernel_rfl) (.agg (p.cells : List Value).toArray) (fun w' hf => run_loadAt_mid w' _ _ 81 (p.cells : List Value) _ hf Tryz.underlying81 rfl (by kernel_rfl)) ?_
            simp only [Act.put, List.getElem_toArray, List.getElem_cons_zero, List.getElem_cons_succ, List.setIfInBounds_toArray, List.set_cons_zero, List.set_cons_succ]
            refine takeQ 5 rfl (by kernel_rfl) rfl (by kernel_rfl) fun K hK => ?_
            simp only [List.getElem_toArray, List.getElem_cons_zero, List.getElem_cons_succ]
            go_big_quiet_op
            refine hK _ ?_
            clear hK K
            refine loadT 6 rfl (by kernel_rfl) (by kernel_rfl) rfl rfl 1 rfl (by kernel_rfl) _ (fun w' hf => by (go_simp <;> with_reducible rfl)) ?_
            simp only [Act.put, List.getElem_toArray, List.getElem_cons_zero, List.getElem_cons_succ, List.setIfInBounds_toArray, List.set_cons_zero, List.set_cons_succ]
            refine takeQ 7 rfl (by kernel_rfl) rfl (by kernel_rfl) fun K hK => ?_
            simp only [List.getElem_toArray, List.getElem_cons_zero, List.getElem_cons_succ]
            go_big_quiet_op
            refine hK _ ?_
            clear hK K
            refine takeQ 8 rfl (by kernel_rfl) rfl (by kernel_rfl) fun K hK => ?_
            simp only [List.getElem_toArray, List.getElem_cons_zero, List.getElem_cons_succ]
            go_big_quiet_op
            refine hK _ ?_
            clear hK K
            refine loadQ 9 rfl (by kernel_rfl) (by kernel_rfl) rfl rfl 3 rfl (by kernel_rfl) (.agg (q.cells : List Value).toArray) (fun w' hf => run_loadAt_mid w' _ _ 81 (q.cells : List Value) _ hf Tryz.underlying81 rfl (by kernel_rfl)) ?_
            simp only [Act.put, List.getElem_toArray, List.getElem_cons_zero, List.getElem_cons_succ, List.setIfInBounds_toArray, List.set_cons_zero, List.set_cons_succ]
            have hp := hp.out; have hq := hq.out
            refine stepQ 10 rfl (by kernel_rfl) (by decide) (by kernel_rfl) fun K hK => ?_
            simp only [List.getElem_toArray, List.getElem_cons_zero, List.getElem_cons_succ]
            go_simp
            refine (CALL.out _).mono ?_
            rintro e w1 ⟨⟨b, rfl⟩, hb1⟩
            have hb2 := hid (hb.out.drew.trans (hb1.mono hb.out.drew.size))
            refine hK _ _ ⟨⟨fun h => (by simp at h), fun h => (by simp at h), fun h => (by simp at h), fun h => (by simp at h), trivial⟩, ?_⟩
            clear hK K
            cases b with
            | true =>
              refine takeQ 11 rfl (by kernel_rfl) rfl (by kernel_rfl) fun K hK => ?_
              simp only [List.getElem_toArray, List.getElem_cons_zero, List.getElem_cons_succ]
              go_big_quiet_op
              refine hK _ ?_
              clear hK K
              refine doneQ (by kernel_rfl) (hKQ.out _ _ ?_)
              clear hKQ KQ
              go_wp2
              go_roundw
              case rel => exact ⟨k + 1, by go_num, by omega, hb2⟩
              case measure => simp [intOf]; omega
            | false =>
              refine takeQ 11 rfl (by kernel_rfl) rfl (by kernel_rfl) fun K hK => ?_
              simp only [List.getElem_toArray, List.getElem_cons_zero, List.getElem_cons_succ]
              go_big_quiet_op
              refine hK _ ?_
              clear hK K
              refine doneQ (by kernel_rfl) (hKQ.out _ _ ?_)
              clear hKQ KQ
              go_wp2
              go_ret
              refine ⟨⟨false, rfl, fun h _ => ?_⟩, bel.out.trans (hb2.out.mono bel.out.size)⟩
              subst h
              rw [hp] at hq
              exact absurd (Option.some.inj hq) hpq.out
        · obtain rfl : k = ps.length := by omega
          have dk : decide ((ps.length : Int) < (ps.length : Int)) = false := by simp
          have hb0 := hid (bel.out.trans (hb.out.mono bel.out.size))
          have B1 := hid (B1.out.below hb.out); have B2 := hid (B2.out.below hb.out)
          clear hb f0 f1 f2 f3 hk
          go_wp2_with fail
          clear g0 g2
          go_loopw [6] (fun i w1 => ∃ k : Nat, i = .int .i64 k ∧ k ≤ cs.length ∧ Hid (Below w.heap.size w w1) ∧ Hid (Blk w1 w.heap.size #[.slice a1 ps.length k1, .slice a2 cs.length k2] 53) ∧ Hid (Blk w1 (w.heap.size + 1) #[.slice a3 ps.length k3, .slice a4 cs.length k4] 53)) (fun i _ => cs.length - (intOf i).toNat)
          case atStart => exact ⟨0, rfl, Nat.zero_le _, hb0, B1, B2⟩
          case round =>
            clear hb0 B1 B2
            obtain ⟨k, rfl, hk, hb0, B1, B2⟩ := hrel
            have g1 : wr.cell? ⟨w.heap.size, 1, none⟩ = some (.slice a2 cs.length k2) := B1.out.cell 1
            have g3 : wr.cell? ⟨w.heap.size + 1, 1, none⟩ = some (.slice a4 cs.length k4) := B2.out.cell 1
            rcases Nat.lt_or_ge k cs.length with hlt | hge
            · have dk : decide ((k : Int) < (cs.length : Int)) = true := decide_eq_true (by omega)
              obtain ⟨p, hp⟩ : ∃ p, cs[k]? = some p := ⟨_, List.getElem?_eq_getElem hlt⟩
              obtain ⟨ga, rfl, la, ra⟩ := own_range ChangeV.cells ChangeV.len rfl (ownsRow_below H2.out hb0.out) hp
              obtain ⟨gb, rfl, lb, rb⟩ := own_range ChangeV.cells ChangeV.len rfl (ownsRow_below H4.out hb0.out) hp
              obtain ⟨dr, ⟨kd, cl, sq, ii, tp, bd, qo, rt, st⟩⟩ := p
              unfold ChangeV.cells RowV.vals at ra rb
              dsimp only at ra rb
              clear hp
              have ra := hid ra; have rb := hid rb
              go_wp2_with fail
              have g1 := hid g1; have g3 := hid g3
              refine regionQ [(1000, fun w' => w'.cell? ⟨w.heap.size, 1, none⟩ = some (.slice (some ⟨ga, 0, none⟩) cs.length k2)), (1000, fun w' => w'.cell? ⟨w.heap.size + 1, 1, none⟩ = some (.slice (some ⟨gb, 0, none⟩) cs.length k4)), (1000, fun w' => w'.rangeAt ga (k * 10) [.bool dr, .int .i64 kd, .string ⟨cl.toArray⟩, .int .i64 sq, .int .i64 ii, .string ⟨tp.toArray⟩, .string ⟨bd.toArray⟩, .int .i64 qo, .bool rt, .int .i64 st]), (1000, fun w' => w'.rangeAt gb (k * 10) [.bool dr, .int .i64 kd, .string ⟨cl.toArray⟩, .int .i64 sq, .int .i64 ii, .string ⟨tp.toArray⟩, .string ⟨bd.toArray⟩, .int .i64 qo, .bool rt, .int .i64 st])] (by kernel_rfl) ⟨g1.out, g3.out, ra.out, rb.out, trivial⟩ fun KQ hKQ => ?_
              refine takeQ 0 rfl (by kernel_rfl) rfl (by kernel_rfl) fun K hK => ?_
              simp only [List.getElem_toArray, List.getElem_cons_zero, List.getElem_cons_succ]
              go_big_quiet_op
              refine hK _ ?_
              clear hK K
              refine loadQ 1 rfl (by kernel_rfl) (by kernel_rfl) rfl rfl 0 rfl (by kernel_rfl) _ (fun w' hf => by (go_simp <;> with_reducible rfl)) ?_
              simp only [Act.put, List.getElem_toArray, List.getElem_cons_zero, List.getElem_cons_succ, List.setIfInBounds_toArray, List.set_cons_zero, List.set_cons_succ]
              refine takeQ 2 rfl (by kernel_rfl) rfl (by kernel_rfl) fun K hK => ?_
              simp only [List.getElem_toArray, List.getElem_cons_zero, List.getElem_cons_succ]
              go_big_quiet_op
              refine hK _ ?_
              clear hK K
              refine takeQ 3 rfl (by kernel_rfl) rfl (by kernel_rfl) fun K hK => ?_
              simp only [List.getElem_toArray, List.getElem_cons_zero, List.getElem_cons_succ]
              go_big_quiet_op
              refine hK _ ?_
              clear hK K
              refine loadQ 4 rfl (by kernel_rfl) (by kernel_rfl) rfl rfl 2 rfl (by kernel_rfl) (.agg ([.bool dr, .int .i64 kd, .string ⟨cl.toArray⟩, .int .i64 sq, .int .i64 ii, .string ⟨tp.toArray⟩, .string ⟨bd.toArray⟩, .int .i64 qo, .bool rt, .int .i64 st] : List Value).toArray) (fun w' hf => run_loadAt_mid w' _ _ 115 ([.bool dr, .int .i64 kd, .string ⟨cl.toArray⟩, .int .i64 sq, .int .i64 ii, .string ⟨tp.toArray⟩, .string ⟨bd.toArray⟩, .int .i64 qo, .bool rt, .int .i64 st] : List Value) _ hf Tryz.underlying115 rfl (by kernel_rfl)) ?_
              simp only [Act.put, List.getElem_toArray, List.getElem_cons_zero, List.getElem_cons_succ, List.setIfInBounds_toArray, List.set_cons_zero, List.set_cons_succ]
              refine takeQ 5 rfl (by kernel_rfl) rfl (by kernel_rfl) fun K hK => ?_
              simp only [List.getElem_toArray, List.getElem_cons_zero, List.getElem_cons_succ]
              go_big_quiet_op
              refine hK _ ?_
              clear hK K
              refine loadQ 6 rfl (by kernel_rfl) (by kernel_rfl) rfl rfl 1 rfl (by kernel_rfl) _ (fun w' hf => by (go_simp <;> with_reducible rfl)) ?_
              simp only [Act.put, List.getElem_toArray, List.getElem_cons_zero, List.getElem_cons_succ, List.setIfInBounds_toArray, List.set_cons_zero, List.set_cons_succ]
              refine takeQ 7 rfl (by kernel_rfl) rfl (by kernel_rfl) fun K hK => ?_
              simp only [List.getElem_toArray, List.getElem_cons_zero, List.getElem_cons_succ]
              go_big_quiet_op
              refine hK _ ?_
              clear hK K
              refine takeQ 8 rfl (by kernel_rfl) rfl (by kernel_rfl) fun K hK => ?_
              simp only [List.getElem_toArray, List.getElem_cons_zero, List.getElem_cons_succ]
              go_big_quiet_op
              refine hK _ ?_
              clear hK K
              refine loadQ 9 rfl (by kernel_rfl) (by kernel_rfl) rfl rfl 3 rfl (by kernel_rfl) (.agg ([.bool dr, .int .i64 kd, .string ⟨cl.toArray⟩, .int .i64 sq, .int .i64 ii, .string ⟨tp.toArray⟩, .string ⟨bd.toArray⟩, .int .i64 qo, .bool rt, .int .i64 st] : List Value).toArray) (fun w' hf => run_loadAt_mid w' _ _ 115 ([.bool dr, .int .i64 kd, .string ⟨cl.toArray⟩, .int .i64 sq, .int .i64 ii, .string ⟨tp.toArray⟩, .string ⟨bd.toArray⟩, .int .i64 qo, .bool rt, .int .i64 st] : List Value) _ hf Tryz.underlying115 rfl (by kernel_rfl)) ?_
              simp only [Act.put, List.getElem_toArray, List.getElem_cons_zero, List.getElem_cons_succ, List.setIfInBounds_toArray, List.set_cons_zero, List.set_cons_succ]
              refine takeQ 10 rfl (by kernel_rfl) rfl (by kernel_rfl) fun K hK => ?_
              simp only [List.getElem_toArray, List.getElem_cons_zero, List.getElem_cons_succ]
              go_big_quiet_op
              refine hK _ ?_
              clear hK K
              refine doneQ (by kernel_rfl) (hKQ.out _ _ ?_)
              clear hKQ KQ
              go_wp2
              go_roundw
              case rel => exact ⟨k + 1, by go_num, by omega, hid hb0.out.drew, hid B1.out.drew, hid B2.out.drew⟩
              case measure => simp [intOf]; omega
            · obtain rfl : k = cs.length := by omega
              have dk : decide ((cs.length : Int) < (cs.length : Int)) = false := by simp
              go_wp2
              go_ret
              exact ⟨⟨true, rfl, fun _ _ => rfl⟩, hb0.out⟩
    · have d2 : (cs.length != ds.length) = true := by simpa using e2
      have n1 : ((ps.length : Int) != (qs.length : Int)) = false := by simp; omega
      have n2 : ((cs.length : Int) != (ds.length : Int)) = true := by simp; omega
      go_enter Tryz.func18, Tryz.ntmps18
      go_wp2
      go_ret
      refine ⟨⟨false, rfl, fun _ h => absurd (congrArg List.length h) e2⟩, ?_⟩
      repeat (first | exact Below.refl _ _ | (refine Below.setCell ?_ (by simp <;> omega) _) | (refine Below.alloc ?_ (by simp <;> omega) _) | refine Below.drew ?_)
  · have n1 : ((ps.length : Int) != (qs.length : Int)) = true := by simp; omega
    go_enter Tryz.func18, Tryz.ntmps18
    go_wp2
    go_ret
    refine ⟨⟨false, rfl, fun h _ => absurd (congrArg List.length h) e1⟩, ?_⟩
    repeat (first | exact Below.refl _ _ | (refine Below.setCell ?_ (by simp <;> omega) _) | (refine Below.alloc ?_ (by simp <;> omega) _) | refine Below.drew ?_)
end Go.Proofs.YtoinabapaeebfaaGreatDoor
namespace Go.Proofs.YtoinabapaeebfaaGreatDoor
open Go.RowKit Go.Shelf

structure ActV where
  kind : Int
  qos : Int
  topic : List UInt8
  body : List UInt8
  retain : Bool
  pack : Int
  id : Int
def ActV.cells (x : ActV) : Array Value := #[.int .i64 x.kind, .int .i64 x.qos, .string ⟨x.topic.toArray⟩, .string ⟨x.body.toArray⟩, .bool x.retain, .int .i64 x.pack, .int .i64 x.id]
def OS.doPut (s : OS) (x : ActV) : SS :=
  if putMay (s.row x.topic x.body x.qos x.retain) = true ∧ (s.l.length : Int) < s.room then ⟨s.put (s.row x.topic x.body x.qos x.retain), [], [⟨false, s.row x.topic x.body x.qos x.retain⟩, ⟨false, (s.put (s.row x.topic x.body x.qos x.retain)).session⟩]⟩ else ⟨s, [], []⟩
def OS.doHear (s : OS) (k z : Int) : SS :=
  if 1 ≤ z ∧ z ≤ 65535 then
    if k = 4 then (s.start.ack z).all.fin s.seq s.id else if k = 5 then (s.start.rec' z).all.fin s.seq s.id else if k = 7 then (s.start.comp z).all.fin s.seq s.id else ⟨s, [], []⟩
  else ⟨s, [], []⟩
def OS.does (s : OS) (x : ActV) : SS :=
  if x.kind = 1 then s.doPut x else if x.kind = 2 then s.start.all.fin s.seq s.id else if x.kind = 3 then s.doHear x.pack x.id else if x.kind = 4 then s.again.all.fin s.seq s.id else ⟨s, [], []⟩


theorem act_Put {w : World} {B : Nat} {L : Lay} {s : OS} (h : OB w B L s [] []) (hn : L.vp = .slice none 0 0 ∧ L.vc = .slice none 0 0) (x : ActV) (ht : x.topic.length ≤ 4000000) (hseq : s.seq ≤ 4611686018427387904) :
    Calls Tryz.prog 41 #[.pointer (some ⟨L.p, 0, none⟩), .string ⟨x.topic.toArray⟩, .string ⟨x.body.toArray⟩, .int .i64 x.qos, .bool x.retain] w fun e w' => ∃ vp vc no L', e = .returned (.tuple #[.agg #[vp, vc], .int .i64 no]) ∧ DidAt w w' L L' (s.doPut x).s vp vc (s.doPut x).ps (s.doPut x).cs := by
  have hA := anyOK x.topic (by omega)
  by_cases hm : putMay (s.row x.topic x.body x.qos x.retain) = true
  · by_cases hr : (s.l.length : Int) < s.room
    · refine (out_Put h hn x.topic x.body x.qos x.retain (by omega) hA hm hr hseq).mono ?_
      rintro e w' ⟨vp, vc, L', rfl, d⟩
      refine ⟨vp, vc, 0, L', rfl, ?_⟩
      unfold OS.doPut
      rw [if_pos ⟨hm, hr⟩]
      exact d
    · refine (out_Put_full h x.topic x.body x.qos x.retain (by omega) hA hm (by omega)).mono ?_
      rintro e w' ⟨rfl, hb⟩
      refine ⟨_, _, 150, L, rfl, ?_⟩
      unfold OS.doPut
      rw [if_neg (fun hh => hr hh.2)]
      exact did_none h hn hb
  · refine (out_Put_arg h x.topic x.body x.qos x.retain (by omega) hA (by simpa using hm)).mono ?_
    rintro e w' ⟨rfl, hb⟩
    refine ⟨_, _, 2, L, rfl, ?_⟩
    unfold OS.doPut
    rw [if_neg (fun hh => hm hh.1)]
    exact did_none h hn hb
theorem act_Hear {w : World} {B : Nat} {L : Lay} {s : OS} (h : OB w B L s [] []) (hn : L.vp = .slice none 0 0 ∧ L.vc = .slice none 0 0) (k z : Int) :
    Calls Tryz.prog 43 #[.pointer (some ⟨L.p, 0, none⟩), .int .i64 k, .int .i64 z] w fun e w' => ∃ vp vc no L', e = .returned (.tuple #[.agg #[vp, vc], .int .i64 no]) ∧ DidAt w w' L L' (s.doHear k z).s vp vc (s.doHear k z).ps (s.doHear k z).cs := by
  have bad : ¬ ((k = 4 ∨ k = 5 ∨ k = 7) ∧ 1 ≤ z ∧ z ≤ 65535) → s.doHear k z = ⟨s, [], []⟩ → Calls Tryz.prog 43 #[.pointer (some ⟨L.p, 0, none⟩), .int .i64 k, .int .i64 z] w fun e w' => ∃ vp vc no L', e = .returned (.tuple #[.agg #[vp, vc], .int .i64 no]) ∧ DidAt w w' L L' (s.doHear k z).s vp vc (s.doHear k z).ps (s.doHear k z).cs := fun hb he => by
    refine (out_Hear_bad h k z hb).mono ?_
    rintro e w' ⟨rfl, hb⟩
    refine ⟨_, _, 2, L, rfl, ?_⟩
    rw [he]
    exact did_none h hn hb
  by_cases hz : 1 ≤ z ∧ z ≤ 65535
  · by_cases h4 : k = 4
    · subst h4
      refine (out_Hear4 h hn z hz).mono ?_
      rintro e w' ⟨vp, vc, L', rfl, d⟩
      refine ⟨vp, vc, 0, L', rfl, ?_⟩
      unfold OS.doHear
      rw [if_pos hz, if_pos rfl]
      exact d
    by_cases h5 : k = 5
    · subst h5
      refine (out_Hear5 h hn z hz).mono ?_
      rintro e w' ⟨vp, vc, L', rfl, d⟩
      refine ⟨vp, vc, 0, L', rfl, ?_⟩
      unfold OS.doHear
      rw [if_pos hz, if_neg (by decide), if_pos rfl]
      exact d
    by_cases h7 : k = 7
    · subst h7
      refine (out_Hear7 h hn z hz).mono ?_
      rintro e w' ⟨vp, vc, L', rfl, d⟩
      refine ⟨vp, vc, 0, L', rfl, ?_⟩
      unfold OS.doHear
      rw [if_pos hz, if_neg (by decide), if_neg (by decide), if_pos rfl]
      exact d
    exact bad (fun hh => by omega) (by unfold OS.doHear; rw [if_pos hz, if_neg h4, if_neg h5, if_neg h7])
  · exact bad (fun hh => hz hh.2) (by unfold OS.doHear; rw [if_neg hz])

/-- What the reference's empty outbox answers. -/
def RefDid (w : World) (e : Ending) (w' : World) : Prop := ∃ (a : Option Addr) (n c : Nat) (no : Int) (qs : List PackV), e = .returned (.tuple #[.agg (refA (.slice none 0 0)), didA (.slice a n c), .int .i64 no]) ∧ n = qs.length ∧ w'.ownsRow w.heap.size 81 24 (.slice a n c) n (qs.flatMap PackV.cells) ∧ Below w.heap.size w w'
theorem ref_Put (topic body : List UInt8) (qos : Int) (retain : Bool) (w : World) :
    Calls Tryz.prog 45 #[.agg (refA (.slice none 0 0)), .string ⟨topic.toArray⟩, .string ⟨body.toArray⟩, .int .i64 qos, .bool retain] w (RefDid w) := (r_Put topic body qos retain w).mono fun _ _ ⟨h1, h2⟩ => ⟨_, _, _, _, [], h1, rfl, World.ownsRow_nil _ _ _ _, h2⟩
theorem ref_Hear (k z : Int) (w : World) :
    Calls Tryz.prog 47 #[.agg (refA (.slice none 0 0)), .int .i64 k, .int .i64 z] w (RefDid w) := by
  by_cases hk : (k = 4 ∨ k = 5 ∨ k = 7) ∧ 1 ≤ z ∧ z ≤ 65535
  · obtain ⟨rfl | rfl | rfl, hz⟩ := hk
    · exact (r_Hear4 z hz w).mono fun _ _ ⟨h1, h2⟩ => ⟨_, _, _, _, [], h1, rfl, World.ownsRow_nil _ _ _ _, h2⟩
    · refine (r_Hear5 z hz w).mono ?_
      rintro e w' ⟨a, n, c, rfl, ho, hb⟩
      obtain ⟨a', c', he⟩ := own_slice ho
      cases he
      exact ⟨a, 1, c, 0, [pubrel z], rfl, rfl, by simpa using ho, hb⟩
    · exact (r_Hear7 z hz w).mono fun _ _ ⟨h1, h2⟩ => ⟨_, _, _, _, [], h1, rfl, World.ownsRow_nil _ _ _ _, h2⟩
  · exact (r_Hear_bad k z hk w).mono fun _ _ ⟨h1, h2⟩ => ⟨_, _, _, _, [], h1, rfl, World.ownsRow_nil _ _ _ _, h2⟩

def RefDid2 (w : World) (e : Ending) (w' : World) : Prop := ∃ (a : Option Addr) (n c : Nat) (qs : List PackV), e = .returned (.tuple #[.agg (refA (.slice none 0 0)), didA (.slice a n c)]) ∧ n = qs.length ∧ w'.ownsRow w.heap.size 81 24 (.slice a n c) n (qs.flatMap PackV.cells) ∧ Below w.heap.size w w'
theorem ref_Send (w : World) : Calls Tryz.prog 46 #[.agg (refA (.slice none 0 0))] w (RefDid2 w) := (r_Send w).mono fun _ _ ⟨h1, h2⟩ => ⟨_, _, _, [], h1, rfl, World.ownsRow_nil _ _ _ _, h2⟩
theorem ref_Anew (w : World) : Calls Tryz.prog 49 #[.agg (refA (.slice none 0 0))] w (RefDid2 w) := (r_Anew w).mono fun _ _ ⟨h1, h2⟩ => ⟨_, _, _, [], h1, rfl, World.ownsRow_nil _ _ _ _, h2⟩

theorem fin_len (X : SS) (q i : Int) : (X.fin q i).cs.length ≤ X.cs.length + 1 := by
  unfold SS.fin
  dsimp only
  rw [List.length_append]
  split <;> simp
theorem start_len (s : OS) (h : s.l.length ≤ 1000) : (s.start.all.fin s.seq s.id).ps.length ≤ 100000 ∧ (s.start.all.fin s.seq s.id).cs.length ≤ 100000 := by
  have h1 := all_len s.start h
  have h2 := fin_len s.start.all s.seq s.id
  have e1 : s.start.ps.length = 0 := rfl
  have e2 : s.start.cs.length = 0 := rfl
  exact ⟨by show s.start.all.ps.length ≤ _; omega, by omega⟩
theorem again_len (s : OS) (h : s.l.length ≤ 1000) : (s.again.all.fin s.seq s.id).ps.length ≤ 100000 ∧ (s.again.all.fin s.seq s.id).cs.length ≤ 100000 := by
  have h1 := all_len s.again h
  have h2 := fin_len s.again.all s.seq s.id
  have e1 : s.again.ps.length ≤ s.l.length := anew_len s.l
  have e2 : s.again.cs.length = 0 := rfl
  exact ⟨by show s.again.all.ps.length ≤ _; omega, by omega⟩
theorem doHear_len (s : OS) (k z : Int) (h : s.l.length ≤ 1000) : (s.doHear k z).ps.length ≤ 100000 ∧ (s.doHear k z).cs.length ≤ 100000 := by
  have gen : ∀ Y : SS, Nigh s.start Y → Y.s.l.length ≤ 1000 → (Y.all.fin s.seq s.id).ps.length ≤ 100000 ∧ (Y.all.fin s.seq s.id).cs.length ≤ 100000 := fun Y hY hl => by
    have h1 := all_len Y hl
    have h2 := fin_len Y.all s.seq s.id
    have h3 := hY.ps
    have h4 := hY.cs
    have e1 : s.start.ps.length = 0 := rfl
    have e2 : s.start.cs.length = 0 := rfl
    exact ⟨by show Y.all.ps.length ≤ _; omega, by omega⟩
  have hg : ∀ n st q, (s.start.goneAt n st q).s.l.length ≤ 1000 := fun n st q => by
    unfold SS.goneAt
    split
    · exact h
    · unfold SS.goneIf
      split
      · exact h
      · split
        · unfold SS.gone
          split
          · exact h
          · show (s.l.eraseIdx _).length ≤ 1000
            have := List.length_eraseIdx_le (l := s.l) (i := n.toNat)
            omega
        · exact h
  unfold OS.doHear
  split
  · split
    · exact gen _ (gone_nigh _ _ _ _) (hg _ _ _)
    · split
      · refine gen _ (pubrec_nigh _ _ _) ?_
        unfold SS.rec' SS.pubrec
        split
        · exact h
        · split
          · exact h
          · split
            · unfold SS.recv
              split
              · exact h
              · split
                · show (s.l.set _ _).length ≤ 1000
                  rw [List.length_set]; exact h
                · exact h
            · exact h
      · split
        · exact gen _ (gone_nigh _ _ _ _) (hg _ _ _)
        · simp
  · simp
end Go.Proofs.YtoinabapaeebfaaGreatDoor
namespace Go.Proofs.YtoinabapaeebfaaGreatDoor
open Go.RowKit Go.Shelf

/-- Calls in memory. -/
structure ActsAt (w : World) (a : Option Addr) (n cap : Nat) (xs : List ActV) : Prop where
  len : xs.length = n
  le : n ≤ cap
  max : cap ≤ maxLen
  at' : ∀ i x, xs[i]? = some x → ∃ g off, a = some ⟨g, off, none⟩ ∧ g < w.heap.size ∧ w.rangeAt g (off + i * 7) x.cells.toList
theorem range_below {w w' : World} {g o : Nat} {cs : List Value} (h : w.rangeAt g o cs) (hg : g < w.heap.size) (hb : Below w.heap.size w w') : w'.rangeAt g o cs := fun j v hj => by
  have := h j v hj
  rw [← this]
  exact hb.cell (p := ⟨g, o + j, none⟩) hg
theorem ActsAt.below {w w' : World} {a : Option Addr} {n cap : Nat} {xs : List ActV} (h : ActsAt w a n cap xs) (hb : Below w.heap.size w w') : ActsAt w' a n cap xs :=
  ⟨h.len, h.le, h.max, fun i x hx => by
    obtain ⟨g, off, h1, h2, h3⟩ := h.at' i x hx
    exact ⟨g, off, h1, Nat.lt_of_lt_of_le h2 hb.size, range_below h3 h2 hb⟩⟩
def FewOk (x : ActV) : Prop := x.topic.length ≤ 3000 ∧ x.body.length ≤ 3000

def FewPost (w : World) (n : Nat) (most : Int) (xs : List ActV) (e : Ending) (w' : World) : Prop := ∃ b, e = .returned (.bool b) ∧ (b = true → (n : Int) ≤ most ∧ ∀ x ∈ xs, FewOk x) ∧ Below w.heap.size w w'
theorem few_no {w w' : World} {n : Nat} {most : Int} {xs : List ActV} {e : Ending} (he : e = .returned (.bool false)) (hb : Below w.heap.size w w') : FewPost w n most xs e w' := ⟨false, he, fun h => (by cases h), hb⟩
theorem few_yes {w w' : World} {n : Nat} {most : Int} {xs : List ActV} {e : Ending} (he : e = .returned (.bool true)) (h : (n : Int) ≤ most ∧ ∀ x ∈ xs, FewOk x) (hb : Below w.heap.size w w') : FewPost w n most xs e w' := ⟨true, he, fun _ => h, hb⟩
set_option maxRecDepth 100000 in
set_option maxHeartbeats 2000000 in
theorem law_few (most : Int) (a : Option Addr) (n cap : Nat) (xs : List ActV) (w : World) (h : ActsAt w a n cap xs) (hm : 0 ≤ most ∧ most ≤ 1000) :
    Calls Tryz.prog 8 #[.slice a n cap, .int .i64 most] w (FewPost w n most xs) := by
  have H := hid h
  have hmax : n ≤ maxLen := Nat.le_trans h.le h.max
  unfold maxLen at hmax
  clear h
  go_enter Tryz.func8, Tryz.ntmps8
  go_wp2
  go_loopw [5, 6] (fun s i wr => ∃ (k : Nat) (z : Int), s = .int .i64 z ∧ i = .int .i64 k ∧ k ≤ n ∧ 0 ≤ z ∧ z ≤ 12000 ∧ Hid (Below w.heap.size w wr) ∧ Hid (∀ j x, j < k → xs[j]? = some x → FewOk x)) (fun _ i _ => n - (intOf i).toNat)
  case atStart => exact ⟨0, 0, rfl, rfl, Nat.zero_le _, Int.le_refl _, by omega, hid (Below.refl _ _), hid fun j x hj => absurd hj (Nat.not_lt_zero _)⟩
  case round =>
    obtain ⟨k, z, rfl, rfl, hk, hz0, hz1, hb, hok⟩ := hrel
    rcases Nat.lt_or_ge k n with hlt | hge
    · have dk : decide ((k : Int) < (n : Int)) = true := decide_eq_true (by omega)
      by_cases hkm : (k : Int) ≤ most
      · have dm : decide ((k : Int) ≤ most) = true := decide_eq_true hkm
        by_cases hz : z ≤ 5000
        · have dz : decide (z ≤ 5000) = true := decide_eq_true hz
          obtain ⟨x, hx⟩ : ∃ x, xs[k]? = some x := ⟨_, List.getElem?_eq_getElem (by have := H.out.len; omega)⟩
          obtain ⟨g, off, rfl, hg, hr⟩ := (H.out.below hb.out).at' k x hx
          have t2 : wr.cell? ⟨g, off + k * 7 + 2, none⟩ = some (.string ⟨x.topic.toArray⟩) := hr 2 _ rfl
          have t3 : wr.cell? ⟨g, off + k * 7 + 3, none⟩ = some (.string ⟨x.body.toArray⟩) := hr 3 _ rfl
          have hcl := H.out.le
          by_cases l1 : x.topic.length ≤ 3000
          · have e1 : decide ((3000 : Int) < (x.topic.length : Int)) = false := decide_eq_false (by omega)
            by_cases l2 : x.body.length ≤ 3000
            · have e2 : decide ((3000 : Int) < (x.body.length : Int)) = false := decide_eq_false (by omega)
              go_wp2
              go_quiet (fail)
              go_wp2
              have hb2 := hid (hb.out.trans ((below_drewN' wr nq).mono hb.out.size))
              go_roundw
              case rel => exact ⟨k + 1, z + x.topic.length + x.body.length, by go_num, by go_num, by omega, by omega, by omega, hb2, hid fun j y hj hy => by
                rcases Nat.lt_or_ge j k with h1 | h1
                · exact hok.out j y h1 hy
                · obtain rfl : j = k := by omega
                  rw [hx] at hy
                  cases hy
                  exact ⟨l1, l2⟩⟩
              case measure => simp [intOf]; omega
            · have e2 : decide ((3000 : Int) < (x.body.length : Int)) = true := decide_eq_true (by omega)
              go_wp2
              go_ret
              exact few_no rfl hb.out
          · have e1 : decide ((3000 : Int) < (x.topic.length : Int)) = true := decide_eq_true (by omega)
            go_wp2
            go_ret
            exact few_no rfl hb.out
        · have dz : decide (z ≤ 5000) = false := decide_eq_false hz
          go_wp2
          all_goals (go_ret; exact few_no rfl hb.out)
      · have dm : decide ((k : Int) ≤ most) = false := decide_eq_false hkm
        have dn : decide ((n : Int) ≤ most) = false := decide_eq_false (by omega)
        go_wp2
        go_ret
        exact few_no rfl hb.out
    · obtain rfl : k = n := by omega
      have dk : decide ((k : Int) < (k : Int)) = false := by simp
      have hall := hid fun (h : (k : Int) ≤ most) => (⟨h, fun x hx => by
        obtain ⟨j, hj⟩ := List.getElem?_of_mem hx
        have := (List.getElem?_eq_some_iff.1 hj).1
        exact hok.out j x (by have := H.out.len; omega) hj⟩ : (k : Int) ≤ most ∧ ∀ x ∈ xs, FewOk x)
      by_cases hkm : (k : Int) ≤ most
      · have dm : decide ((k : Int) ≤ most) = true := decide_eq_true hkm
        by_cases hz : z ≤ 5000
        · have dz : decide (z ≤ 5000) = true := decide_eq_true hz
          go_wp2
          go_ret
          exact few_yes rfl (hall.out hkm) hb.out
        · have dz : decide (z ≤ 5000) = false := decide_eq_false hz
          go_wp2
          go_ret
          exact few_no rfl hb.out
      · have dm : decide ((k : Int) ≤ most) = false := decide_eq_false hkm
        go_wp2
        go_ret
        exact few_no rfl hb.out
end Go.Proofs.YtoinabapaeebfaaGreatDoor
namespace Go.Proofs.YtoinabapaeebfaaGreatDoor
open Go.RowKit Go.Shelf

set_option maxRecDepth 100000 in
set_option maxHeartbeats 400000 in
theorem ref_May (r : Int) (w : World) :
    Calls Tryz.prog 208 #[.int .i32 r] w fun e w' => e = .returned (.bool (mayR r)) ∧ w = w' := by
  have fin : ∀ b : Bool, mayR r = b → Ending.returned (.bool b) = .returned (.bool (mayR r)) := fun b h => by rw [h]
  have HF := hid fin
  clear fin
  by_cases h1 : 0 ≤ r
  · by_cases h3 : r < 55296
    · go_enter Tryz.func208, Tryz.ntmps208
      go_wp2
      all_goals (go_ret; exact ⟨HF.out _ (by simp [mayR]; omega), rfl⟩)
    · have d1 : decide (r < 55296) = false := decide_eq_false h3
      by_cases h4 : 57343 < r
      · by_cases h2 : r ≤ 1114111
        · go_enter Tryz.func208, Tryz.ntmps208
          go_wp2
          all_goals (go_ret; exact ⟨HF.out _ (by simp [mayR]; omega), rfl⟩)
        · have d2 : decide (r ≤ 1114111) = false := decide_eq_false h2
          go_enter Tryz.func208, Tryz.ntmps208
          go_wp2
          all_goals (go_ret; exact ⟨HF.out _ (by simp [mayR]; omega), rfl⟩)
      · have d3 : decide (57343 < r) = false := decide_eq_false h4
        go_enter Tryz.func208, Tryz.ntmps208
        go_wp2
        all_goals (go_ret; exact ⟨HF.out _ (by simp [mayR]; omega), rfl⟩)
  · have d4 : decide (0 ≤ r) = false := decide_eq_false h1
    have d5 : decide (57343 < r) = false := decide_eq_false (by omega)
    go_enter Tryz.func208, Tryz.ntmps208
    go_wp2
    all_goals (go_ret; exact ⟨HF.out _ (by simp [mayR]; omega), rfl⟩)

set_option maxRecDepth 100000 in
set_option maxHeartbeats 400000 in
theorem ref_six (k : Int) (w : World) (h0 : 0 ≤ k) (hk : k ≤ 1114111) :
    Calls Tryz.prog 222 #[.int .i64 k] w fun e w' => e = .returned (.int .u8 (128 + k % 64)) ∧ w = w' := by
  go_enter Tryz.func222, Tryz.ntmps222
  go_wp2
  go_ret
  exact ⟨rfl, rfl⟩

theorem conv_cells (l : List UInt8) (cs : List Value) (h : cs = bs l) (n : Nat) (hn : cs.length = n) (W : World) (hl : n ≤ 1000) : (convert 71 9 (.slice (some ⟨W.heap.size, 0, none⟩) n n)).run Tryz.prog (W.alloc (.cells cs.toArray 5)) = .ok (.string ⟨l.toArray⟩) (W.alloc (.cells cs.toArray 5)) := by
  subst hn h
  have h1 := RowAt.new W (bs l).toArray 5 (0, 0) (by unfold maxLen; simp; omega)
  simp only [List.size_toArray, List.toList_toArray] at h1
  exact run_str h1
theorem cells_1 (m : Nat) (h : m < 128) : [Value.int .u8 (m : Int)] = bs (encR m) := by
  have he : encR m = [b8 m] := by unfold encR; rw [if_pos h]
  rw [he]
  simp only [bs, List.map_cons, List.map_nil, b8_nat m (by omega)]
theorem cells_2 (m : Nat) (h : ¬ m < 128) (h2 : m < 2048) : [Value.int .u8 (192 + (m : Int) / 64), .int .u8 (128 + (m : Int) % 64)] = bs (encR m) := by
  have he : encR m = [b8 (192 + m / 64), b8 (128 + m % 64)] := by unfold encR; rw [if_neg h, if_pos h2]
  rw [he]
  simp only [bs, List.map_cons, List.map_nil, b8_nat (192 + m / 64) (by omega), b8_nat (128 + m % 64) (by omega)]
  rfl
theorem cells_3 (m : Nat) (h : ¬ m < 2048) (h2 : m < 65536) : [Value.int .u8 (224 + (m : Int) / 4096), .int .u8 (128 + (m : Int) / 64 % 64), .int .u8 (128 + (m : Int) % 64)] = bs (encR m) := by
  have he : encR m = [b8 (224 + m / 4096), b8 (128 + m / 64 % 64), b8 (128 + m % 64)] := by unfold encR; rw [if_neg (by omega), if_neg h, if_pos h2]
  rw [he]
  simp only [bs, List.map_cons, List.map_nil, b8_nat (224 + m / 4096) (by omega), b8_nat (128 + m / 64 % 64) (by omega), b8_nat (128 + m % 64) (by omega)]
  rfl
theorem cells_4 (m : Nat) (h : ¬ m < 65536) (h2 : m ≤ 1114111) : [Value.int .u8 (240 + (m : Int) / 262144), .int .u8 (128 + (m : Int) / 4096 % 64), .int .u8 (128 + (m : Int) / 64 % 64), .int .u8 (128 + (m : Int) % 64)] = bs (encR m) := by
  have he : encR m = [b8 (240 + m / 262144), b8 (128 + m / 4096 % 64), b8 (128 + m / 64 % 64), b8 (128 + m % 64)] := by unfold encR; rw [if_neg (by omega), if_neg (by omega), if_neg h]
  rw [he]
  simp only [bs, List.map_cons, List.map_nil, b8_nat (240 + m / 262144) (by omega), b8_nat (128 + m / 4096 % 64) (by omega), b8_nat (128 + m / 64 % 64) (by omega), b8_nat (128 + m % 64) (by omega)]
  rfl

set_option maxRecDepth 100000 in
set_option maxHeartbeats 1000000 in
theorem ref_Raw (m : Nat) (w : World) (hm : m ≤ 1114111) :
    Calls Tryz.prog 209 #[.int .i32 m] w fun e w' => e = .returned (.string ⟨(encR m).toArray⟩) ∧ Below w.heap.size w w' := by
  have hb : ∀ o, Below w.heap.size w (w.alloc o) := fun o => (Below.refl _ w).alloc (Nat.le_refl _) o
  have HB := hid hb
  clear hb
  obtain ⟨z, hz⟩ : ∃ z : Int, z = m := ⟨_, rfl⟩
  rw [← hz]
  have HZ := hid hz
  have z0 : 0 ≤ z := by omega
  have z1 : z ≤ 1114111 := by omega
  by_cases h1 : m < 128
  · have hcv := fun W => conv_cells (encR m) _ (cells_1 m h1) 1 rfl W (by omega)
    rw [← hz] at hcv
    have y1 : z < 128 := by omega
    clear hz hm h1
    go_enter Tryz.func209, Tryz.ntmps209
    go_wp2
    go_ret
    exact ⟨rfl, HB.out _⟩
  by_cases h2 : m < 2048
  · have hcv := fun W => conv_cells (encR m) _ (cells_2 m h1 h2) 2 rfl W (by omega)
    rw [← hz] at hcv
    have y1 : 128 ≤ z := by omega
    have y2 : z < 2048 := by omega
    clear hz hm h1 h2
    go_enter Tryz.func209, Tryz.ntmps209
    go_wp2_with (go_at_call 222; refine (ref_six _ _ (by omega) (by omega)).mono ?_; rintro e w' ⟨rfl, rfl⟩)
    go_ret
    exact ⟨rfl, HB.out _⟩
  by_cases h3 : m < 65536
  · have hcv := fun W => conv_cells (encR m) _ (cells_3 m h2 h3) 3 rfl W (by omega)
    rw [← hz] at hcv
    have y1 : 2048 ≤ z := by omega
    have y2 : z < 65536 := by omega
    clear hz hm h1 h2 h3
    go_enter Tryz.func209, Tryz.ntmps209
    go_wp2_with (go_at_call 222; refine (ref_six _ _ (by omega) (by omega)).mono ?_; rintro e w' ⟨rfl, rfl⟩)
    go_ret
    exact ⟨rfl, HB.out _⟩
  · have hcv := fun W => conv_cells (encR m) _ (cells_4 m h3 hm) 4 rfl W (by omega)
    rw [← hz] at hcv
    have y1 : 65536 ≤ z := by omega
    clear hz hm h1 h2 h3
    go_enter Tryz.func209, Tryz.ntmps209
    go_wp2_with (go_at_call 222; refine (ref_six _ _ (by omega) (by omega)).mono ?_; rintro e w' ⟨rfl, rfl⟩)
    go_ret
    exact ⟨rfl, HB.out _⟩
end Go.Proofs.YtoinabapaeebfaaGreatDoor
