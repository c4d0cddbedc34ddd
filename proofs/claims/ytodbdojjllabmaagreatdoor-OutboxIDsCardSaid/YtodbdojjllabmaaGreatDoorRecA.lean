/- Contracts of package records: rows as values; within, client, the tests of a session's row. -/
import Derived.Test.YtodbdojjllabmaaGreatDoorUtfEa
import Derived.Test.YtodbdojjllabmaaGreatDoorAppB
import Derived.Test.YtodbdojjllabmaaGreatDoorMap
namespace Go.Proofs.YtodbdojjllabmaaGreatDoor
open Go.RowKit Go.Shelf

/-- A row. -/
structure RowV where
  kind : Int
  client : List UInt8
  seq : Int
  id : Int
  topic : List UInt8
  body : List UInt8
  qos : Int
  retain : Bool
  stage : Int
def RowV.vals (r : RowV) : Array Value := #[.int .i64 r.kind, .string ⟨r.client.toArray⟩, .int .i64 r.seq, .int .i64 r.id, .string ⟨r.topic.toArray⟩, .string ⟨r.body.toArray⟩, .int .i64 r.qos, .bool r.retain, .int .i64 r.stage]

set_option maxRecDepth 100000 in
set_option maxHeartbeats 400000 in
theorem rec_within (n a b : Int) (w : World) :
    Calls Tryz.prog 82 #[.int .i64 n, .int .i64 a, .int .i64 b] w fun e w' => e = .returned (.bool (decide (a ≤ n) && decide (n ≤ b))) ∧ w = w' := by
  by_cases h : a ≤ n
  · go_enter Tryz.func82, Tryz.ntmps82
    go_wp2
    go_ret
    simp [h]
  · have d : decide (a ≤ n) = false := decide_eq_false h
    go_enter Tryz.func82, Tryz.ntmps82
    go_wp2
    go_ret
    simp [d]

/-- May a client be? -/
def clientR (s : List UInt8) : Bool := !s.isEmpty && decide (s.length ≤ 23) && decide (wrongU s = -1)
set_option maxRecDepth 100000 in
set_option maxHeartbeats 400000 in
theorem rec_client (s : List UInt8) (w : World) (hs : s.length ≤ 9223372036854775807) :
    Calls Tryz.prog 81 #[.string ⟨s.toArray⟩] w fun e w' => e = .returned (.bool (clientR s)) ∧ Below w.heap.size w w' := by
  have hsz : ByteArray.size ⟨s.toArray⟩ = s.length := by simp [ByteArray.size]
  have fin : ∀ b : Bool, clientR s = b → Ending.returned (.bool b) = .returned (.bool (clientR s)) := fun b h => by rw [h]
  have HF := hid fin
  clear fin
  by_cases h0 : s = []
  · subst h0
    go_enter Tryz.func81, Tryz.ntmps81
    go_wp2
    go_ret
    exact ⟨HF.out _ rfl, Below.refl _ _⟩
  have e0 : ((⟨s.toArray⟩ : ByteArray).toList == (⟨#[]⟩ : ByteArray).toList) = false := by
    rw [ByteArray.toList_eq, ByteArray.toList_eq]
    simpa using h0
  have e1 : s.isEmpty = false := by cases s <;> simp at h0 ⊢
  have HS0 := hid h0
  clear h0
  by_cases h1 : s.length ≤ 23
  · have CC := hid (utf_Check s w (by omega))
    by_cases hw : wrongU s = -1
    · rw [show checkU s = 0 by unfold checkU; rw [hw]; rfl] at CC
      have HB := hid (show clientR s = true by unfold clientR; rw [e1, hw]; simp [h1])
      clear hw
      go_enter Tryz.func81, Tryz.ntmps81
      go_wp2_with (go_at_call 125; refine CC.out.mono ?_; rintro e w1 ⟨rfl, hb⟩)
      go_ret
      exact ⟨HF.out _ HB.out, hb⟩
    · rw [show checkU s = 220 by unfold checkU; rw [if_pos (by have := wrongU_lo s; omega)]] at CC
      have HB := hid (show clientR s = false by unfold clientR; rw [e1]; simp [hw])
      clear hw
      go_enter Tryz.func81, Tryz.ntmps81
      go_wp2_with (go_at_call 125; refine CC.out.mono ?_; rintro e w1 ⟨rfl, hb⟩)
      go_ret
      exact ⟨HF.out _ HB.out, hb⟩
  · have d1 : decide ((s.length : Int) ≤ 23) = false := decide_eq_false (by omega)
    have HB := hid (show clientR s = false by unfold clientR; rw [e1]; simp [h1])
    clear h1
    go_enter Tryz.func81, Tryz.ntmps81
    go_wp2
    go_ret
    exact ⟨HF.out _ HB.out, Below.refl _ _⟩

/-- What is there of a kind. -/
def kindV (s : List UInt8) (a b c : Nat) (p : Bool) : Value := .agg #[.string ⟨s.toArray⟩, .func (.func a) #[] #[], .func (.func b) #[] #[], .func (.func c) #[] #[], .bool p]
def kindsE : Array MapEntry := #[
  { key := .int .i64 1, val := kindV [115, 101, 115, 115, 105, 111, 110] 80 83 84 false, born := 0 },
  { key := .int .i64 2, val := kindV [115, 117, 98] 86 88 89 true, born := 1 },
  { key := .int .i64 3, val := kindV [111, 117, 116] 91 93 94 false, born := 2 },
  { key := .int .i64 4, val := kindV [105, 110] 96 97 98 false, born := 3 },
  { key := .int .i64 5, val := kindV [114, 101, 116, 97, 105, 110] 99 100 101 true, born := 4 }]

set_option maxRecDepth 100000 in
set_option maxHeartbeats 400000 in
theorem rec_kinds (w : World) :
    Calls Tryz.prog 49 #[] w fun e w' => e = .returned (.map (some w.heap.size)) ∧ w'.heap[w.heap.size]? = some (.map kindsE 5) ∧ Below w.heap.size w w' := by
  have hmm := @run_makeMap Tryz.prog
  have hb0 : (w.alloc (.map #[] 0)).heap[w.heap.size]? = some (.map #[] 0) := by show (w.heap.push _)[w.heap.size]? = _; simp
  have B0 : Below w.heap.size w (w.alloc (.map #[] 0)) := (Below.refl _ w).alloc (Nat.le_refl _) _
  go_enter Tryz.func49, Tryz.ntmps49
  go_wp2_with (refine wpList_insert_new _ rfl _ _ _ 117 rfl 27 115 .i64 Tryz.underlying117 Tryz.underlying27 _ _ _ rfl (by with_reducible assumption) _ _ rfl rfl (by simp [putE]) ?_; intro w1 hb1 hg1; replace B0 := B0.grown hg1 B0.size (fun k hk => by cases hk; exact Nat.le_refl _); clear hg1)
  go_ret
  refine ⟨rfl, ?_, B0⟩
  rw [hb1]
  rfl
end Go.Proofs.YtodbdojjllabmaaGreatDoor
