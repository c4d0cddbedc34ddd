/- Contracts of package records (part 4): the session's closures, and Check. -/
import Derived.Test.YtodbdojjllabmaaGreatDoorRecC
import Derived.Handy
namespace Go.Proofs.YtodbdojjllabmaaGreatDoor
open Go.RowKit Go.Shelf

/-- May a session's row be? -/
def sessMay (r : RowV) : Bool := clientR r.client && (decide (0 ≤ r.seq) && decide (r.seq ≤ 4611686018427387904)) && (decide (0 ≤ r.id) && decide (r.id ≤ 4611686018427387904))
/-- What a session's row has. -/
def sessHas (r : RowV) : RowV := ⟨0, r.client, r.seq, r.id, [], [], 0, false, 0⟩

set_option maxRecDepth 100000 in
set_option maxHeartbeats 800000 in
theorem kinds1 (r : RowV) (w : World) (hc : r.client.length ≤ 9223372036854775807) :
    Calls Tryz.prog 80 #[.agg r.vals] w fun e w' => e = .returned (.bool (sessMay r)) ∧ Below w.heap.size w w' := by
  obtain ⟨kind, client, seq, id, topic, body, qos, retain, stage⟩ := r
  simp only at hc
  obtain ⟨bc, hbc⟩ : ∃ b, clientR client = b := ⟨_, rfl⟩
  obtain ⟨bs, hbs⟩ : ∃ b, (decide (0 ≤ seq) && decide (seq ≤ 4611686018427387904)) = b := ⟨_, rfl⟩
  obtain ⟨bi, hbi⟩ : ∃ b, (decide (0 ≤ id) && decide (id ≤ 4611686018427387904)) = b := ⟨_, rfl⟩
  have HP := hid (show sessMay ⟨kind, client, seq, id, topic, body, qos, retain, stage⟩ = (bc && bs && bi) by unfold sessMay; simp only; rw [hbc, hbs, hbi])
  have CC := fun w => rec_client client w hc
  rw [hbc] at CC
  have HCC := hid CC
  have HCS := hid (rec_within_b _ _ _ _ hbs)
  have HCI := hid (rec_within_b _ _ _ _ hbi)
  clear CC hbc hbs hbi hc
  unfold RowV.vals
  have K : bc = false ∨ (bc = true ∧ bs = false) ∨ (bc = true ∧ bs = true ∧ bi = false) ∨ (bc = true ∧ bs = true ∧ bi = true) := by
    cases bc <;> cases bs <;> cases bi <;> simp
  rcases K with rfl | ⟨rfl, rfl⟩ | ⟨rfl, rfl, rfl⟩ | ⟨rfl, rfl, rfl⟩
  all_goals
    go_enter Tryz.func80, Tryz.ntmps80
    go_wp2_with (first
      | (go_at_call 81; refine (HCC.out _).mono ?_; rintro e w1 ⟨rfl, hb⟩; have c2 := cellB hb (j := 2) rfl; have c3 := cellB hb (j := 3) rfl)
      | (go_at_call 82; refine (HCS.out _).mono ?_; rintro e w3 ⟨rfl, rfl⟩; clear HCS)
      | (go_at_call 82; refine (HCI.out _).mono ?_; rintro e w3 ⟨rfl, rfl⟩))
    go_ret
    refine ⟨by rw [HP.out]; rfl, ?_⟩
    exact ((Below.refl w.heap.size w).alloc (Nat.le_refl _) _).trans (hb.mono (by simp))

set_option maxRecDepth 100000 in
set_option maxHeartbeats 800000 in
theorem kinds2 (r : RowV) (w : World) :
    Calls Tryz.prog 83 #[.agg r.vals] w fun e w' => e = .returned (.agg (sessHas r).vals) ∧ Below w.heap.size w w' := by
  unfold RowV.vals sessHas
  go_enter Tryz.func83, Tryz.ntmps83
  go_wp2
  go_returns
  exact ⟨rfl, ((Below.refl w.heap.size w).alloc (Nat.le_refl _) _).alloc (by simp) _⟩

set_option maxRecDepth 100000 in
set_option maxHeartbeats 800000 in
theorem kinds8 (r : RowV) (w : World) :
    Calls Tryz.prog 93 #[.agg r.vals] w fun e w' => e = .returned (.agg r.vals) ∧ Below w.heap.size w w' := by
  unfold RowV.vals
  go_enter Tryz.func93, Tryz.ntmps93
  go_wp2
  go_returns
  exact ⟨rfl, ((Below.refl w.heap.size w).alloc (Nat.le_refl _) _).alloc (by simp) _⟩
end Go.Proofs.YtodbdojjllabmaaGreatDoor
