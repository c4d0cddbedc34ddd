/- Contracts of package records (part 3): kinds' closures. -/
import Derived.Test.YtodbdojjllabmaaGreatDoorRecB
namespace Go.Proofs.YtodbdojjllabmaaGreatDoor
open Go.RowKit Go.Shelf

theorem rec_within_b (n a b : Int) (v : Bool) (h : (decide (a ≤ n) && decide (n ≤ b)) = v) (w : World) :
    Calls Tryz.prog 82 #[.int .i64 n, .int .i64 a, .int .i64 b] w fun e w' => e = .returned (.bool v) ∧ w = w' := by
  have := rec_within n a b w
  rwa [h] at this

theorem cellB {w w1 : World} {cs : Array Value} {T : Nat} (hb : Below (w.alloc (.cells cs T)).heap.size (w.alloc (.cells cs T)) w1) {j : Nat} {v : Value} (hv : cs[j]? = some v) :
    w1.cell? ⟨w.heap.size, j, none⟩ = some v := by
  rw [hb.cell (by simp [World.size_alloc])]
  exact (World.cell?_alloc_at _ _ _ _ rfl).trans hv

/-- May a row be put? -/
def putMay (r : RowV) : Bool := clientR r.client && (decide (0 ≤ r.seq) && decide (r.seq ≤ 4611686018427387904)) && nameR r.topic && decide ((r.body.length : Int) ≤ 2000) && (decide (1 ≤ r.qos) && decide (r.qos ≤ 2))

set_option maxRecDepth 100000 in
set_option maxHeartbeats 800000 in
theorem kinds7_put (r : RowV) (w : World) (hst : r.stage = 1) (hid0 : r.id = 0) (hc : r.client.length ≤ 9223372036854775807) (ht : r.topic.length ≤ 9223372036854775807) (hA : AnyOK r.topic) :
    Calls Tryz.prog 91 #[.agg r.vals] w fun e w' => e = .returned (.bool (putMay r)) ∧ Below w.heap.size w w' := by
  obtain ⟨kind, client, seq, id, topic, body, qos, retain, stage⟩ := r
  simp only at hst hid0 hc ht hA
  subst hst hid0
  obtain ⟨bc, hbc⟩ : ∃ b, clientR client = b := ⟨_, rfl⟩
  obtain ⟨bs, hbs⟩ : ∃ b, (decide (0 ≤ seq) && decide (seq ≤ 4611686018427387904)) = b := ⟨_, rfl⟩
  obtain ⟨bn, hbn⟩ : ∃ b, nameR topic = b := ⟨_, rfl⟩
  obtain ⟨bq, hbq⟩ : ∃ b, (decide (1 ≤ qos) && decide (qos ≤ 2)) = b := ⟨_, rfl⟩
  obtain ⟨bb, hbb⟩ : ∃ b, decide ((body.length : Int) ≤ 2000) = b := ⟨_, rfl⟩
  have HP := hid (show putMay ⟨kind, client, seq, 0, topic, body, qos, retain, 1⟩ = (bc && bs && bn && bb && bq) by unfold putMay; simp only; rw [hbc, hbs, hbn, hbq, hbb])
  have CC := fun w => rec_client client w hc
  rw [hbc] at CC
  have CN := fun w => topic_Name topic w ht hA
  rw [hbn] at CN
  have CS := rec_within_b _ _ _ _ hbs
  have CQ := rec_within_b _ _ _ _ hbq
  have hsz : ByteArray.size ⟨body.toArray⟩ = body.length := by simp [ByteArray.size]
  have HCC := hid CC
  have HCN := hid CN
  have HCS := hid CS
  have HCQ := hid CQ
  clear CC CN CS CQ hbc hbs hbn hbq hc ht hA
  unfold RowV.vals
  have K : bc = false ∨ (bc = true ∧ bs = false) ∨ (bc = true ∧ bs = true ∧ bn = false) ∨ (bc = true ∧ bs = true ∧ bn = true ∧ bb = false) ∨ (bc = true ∧ bs = true ∧ bn = true ∧ bb = true) := by
    cases bc <;> cases bs <;> cases bn <;> cases bb <;> simp
  rcases K with rfl | ⟨rfl, rfl⟩ | ⟨rfl, rfl, rfl⟩ | ⟨rfl, rfl, rfl, rfl⟩ | ⟨rfl, rfl, rfl, rfl⟩
  case inr.inr.inr.inr =>
    have hle : (body.length : Int) ≤ 2000 := of_decide_eq_true hbb
    clear hbb
    cases bq
    all_goals
      go_enter Tryz.func91, Tryz.ntmps91
      go_wp2_with (first
        | (go_at_call 81; refine (HCC.out _).mono ?_; rintro e w1 ⟨rfl, hb⟩; have c2 := cellB hb (j := 2) rfl; have c4 := cellB hb (j := 4) rfl)
        | (go_at_call 92; refine (HCN.out _).mono ?_; rintro e w2 ⟨rfl, hb2⟩; replace hb := hb.trans (hb2.mono hb.size); have c5 := cellB hb (j := 5) rfl; have c6 := cellB hb (j := 6) rfl)
        | (go_at_call 82; refine (HCS.out _).mono ?_; rintro e w3 ⟨rfl, rfl⟩; clear HCS)
        | (go_at_call 82; refine (HCQ.out _).mono ?_; rintro e w3 ⟨rfl, rfl⟩))
      go_ret
      refine ⟨by rw [HP.out]; rfl, ?_⟩
      first | exact (Below.refl _ _).alloc (Nat.le_refl _) _ |>.trans (hb.mono (by simp)) | exact ((Below.refl w.heap.size w).alloc (Nat.le_refl _) _).trans (hb.mono (by simp))
  case inr.inr.inr.inl =>
    go_enter Tryz.func91, Tryz.ntmps91
    go_wp2_with (first
      | (go_at_call 81; refine (HCC.out _).mono ?_; rintro e w1 ⟨rfl, hb⟩; have c2 := cellB hb (j := 2) rfl; have c4 := cellB hb (j := 4) rfl)
      | (go_at_call 92; refine (HCN.out _).mono ?_; rintro e w2 ⟨rfl, hb2⟩; replace hb := hb.trans (hb2.mono hb.size); have c5 := cellB hb (j := 5) rfl; have c6 := cellB hb (j := 6) rfl)
      | (go_at_call 82; refine (HCS.out _).mono ?_; rintro e w3 ⟨rfl, rfl⟩; clear HCS)
      | (go_at_call 82; refine (HCQ.out _).mono ?_; rintro e w3 ⟨rfl, rfl⟩))
    go_ret
    refine ⟨by rw [HP.out]; rfl, ?_⟩
    first | exact (Below.refl _ _).alloc (Nat.le_refl _) _ |>.trans (hb.mono (by simp)) | exact ((Below.refl w.heap.size w).alloc (Nat.le_refl _) _).trans (hb.mono (by simp))
  all_goals
    clear hbb
    go_enter Tryz.func91, Tryz.ntmps91
    go_wp2_with (first
      | (go_at_call 81; refine (HCC.out _).mono ?_; rintro e w1 ⟨rfl, hb⟩; have c2 := cellB hb (j := 2) rfl; have c4 := cellB hb (j := 4) rfl)
      | (go_at_call 92; refine (HCN.out _).mono ?_; rintro e w2 ⟨rfl, hb2⟩; replace hb := hb.trans (hb2.mono hb.size); have c5 := cellB hb (j := 5) rfl; have c6 := cellB hb (j := 6) rfl)
      | (go_at_call 82; refine (HCS.out _).mono ?_; rintro e w3 ⟨rfl, rfl⟩; clear HCS)
      | (go_at_call 82; refine (HCQ.out _).mono ?_; rintro e w3 ⟨rfl, rfl⟩))
    go_ret
    refine ⟨by rw [HP.out]; rfl, ?_⟩
    first | exact (Below.refl _ _).alloc (Nat.le_refl _) _ |>.trans (hb.mono (by simp)) | exact ((Below.refl w.heap.size w).alloc (Nat.le_refl _) _).trans (hb.mono (by simp))
end Go.Proofs.YtodbdojjllabmaaGreatDoor
