/- Contracts of package records (part 8): Check of a filter's row, and of an ID's. -/
import Derived.Test.YtoinabapaeebfaaGreatDoorPk24
import Derived.Test.YtoinabapaeebfaaGreatDoorPk35
set_option linter.unusedSimpArgs false
set_option linter.unusedVariables false
namespace Go.Proofs.YtoinabapaeebfaaGreatDoor
open Go.RowKit Go.Shelf

def subMay (r : RowV) : Bool := clientR r.client && filterR r.topic && (decide (0 ≤ r.qos) && decide (r.qos ≤ 2))
def subHas (r : RowV) : RowV := ⟨0, r.client, 0, 0, r.topic, [], r.qos, false, 0⟩
def inMay (r : RowV) : Bool := clientR r.client && (decide (1 ≤ r.id) && decide (r.id ≤ 65535))
def inHas (r : RowV) : RowV := ⟨0, r.client, 0, r.id, [], [], 0, false, 0⟩

set_option maxRecDepth 100000 in
set_option maxHeartbeats 800000 in
theorem kinds4 (r : RowV) (w : World) (hc : r.client.length ≤ 1000000) (ht : r.topic.length ≤ 1000000) :
    Calls Tryz.prog 155 #[.agg r.vals] w fun e w' => e = .returned (.bool (subMay r)) ∧ Below w.heap.size w w' := by
  obtain ⟨kind, client, seq, id, topic, body, qos, retain, stage⟩ := r
  simp only at hc ht
  obtain ⟨bc, hbc⟩ : ∃ b, clientR client = b := ⟨_, rfl⟩
  obtain ⟨bs, hbs⟩ : ∃ b, filterR topic = b := ⟨_, rfl⟩
  obtain ⟨bi, hbi⟩ : ∃ b, (decide (0 ≤ qos) && decide (qos ≤ 2)) = b := ⟨_, rfl⟩
  have HP := hid (show subMay ⟨kind, client, seq, id, topic, body, qos, retain, stage⟩ = (bc && bs && bi) by unfold subMay; simp only; rw [hbc, hbs, hbi])
  have CC := fun w => rec_client client w (by omega)
  rw [hbc] at CC
  have CF := fun w => topic_Filter topic w ht
  rw [hbs] at CF
  have HCC := hid CC
  have HCS := hid CF
  have HCI := hid (rec_within_b _ _ _ _ hbi)
  clear CC CF hbc hbs hbi hc ht
  unfold RowV.vals
  have K : bc = false ∨ (bc = true ∧ bs = false) ∨ (bc = true ∧ bs = true ∧ bi = false) ∨ (bc = true ∧ bs = true ∧ bi = true) := by
    cases bc <;> cases bs <;> cases bi <;> simp
  rcases K with rfl | ⟨rfl, rfl⟩ | ⟨rfl, rfl, rfl⟩ | ⟨rfl, rfl, rfl⟩
  all_goals
    go_enter Tryz.func155, Tryz.ntmps155
    go_wp2_with (first
      | (go_at_call 150; refine (HCC.out _).mono ?_; rintro e w1 ⟨rfl, hb⟩; have hbz := below_pop hb; have c4 := cellB hb (j := 4) rfl)
      | (go_at_call 70; refine (HCS.out _).mono ?_; rintro e w2 ⟨rfl, hb2⟩; replace hbz := hbz.trans (hb2.mono hbz.size); replace hb := hb.trans (hb2.mono hb.size); have c6 := cellB hb (j := 6) rfl)
      | (go_at_call 151; refine (HCI.out _).mono ?_; rintro e w3 ⟨rfl, rfl⟩))
    go_ret
    exact ⟨by rw [HP.out]; rfl, hbz⟩

set_option maxRecDepth 100000 in
set_option maxHeartbeats 800000 in
theorem kinds5 (r : RowV) (w : World) :
    Calls Tryz.prog 156 #[.agg r.vals] w fun e w' => e = .returned (.agg (subHas r).vals) ∧ Below w.heap.size w w' := by
  unfold RowV.vals subHas
  go_enter Tryz.func156, Tryz.ntmps156
  go_wp2
  go_returns
  exact ⟨rfl, ((Below.refl w.heap.size w).alloc (Nat.le_refl _) _).alloc (by simp) _⟩

set_option maxRecDepth 100000 in
set_option maxHeartbeats 800000 in
theorem kinds10 (r : RowV) (w : World) (hc : r.client.length ≤ 1000000) :
    Calls Tryz.prog 163 #[.agg r.vals] w fun e w' => e = .returned (.bool (inMay r)) ∧ Below w.heap.size w w' := by
  obtain ⟨kind, client, seq, id, topic, body, qos, retain, stage⟩ := r
  simp only at hc
  obtain ⟨bc, hbc⟩ : ∃ b, clientR client = b := ⟨_, rfl⟩
  obtain ⟨bi, hbi⟩ : ∃ b, (decide (1 ≤ id) && decide (id ≤ 65535)) = b := ⟨_, rfl⟩
  have HP := hid (show inMay ⟨kind, client, seq, id, topic, body, qos, retain, stage⟩ = (bc && bi) by unfold inMay; simp only; rw [hbc, hbi])
  have CC := fun w => rec_client client w (by omega)
  rw [hbc] at CC
  have HCC := hid CC
  have HCI := hid (rec_within_b _ _ _ _ hbi)
  clear CC hbc hbi hc
  unfold RowV.vals
  have K : bc = false ∨ (bc = true ∧ bi = false) ∨ (bc = true ∧ bi = true) := by
    cases bc <;> cases bi <;> simp
  rcases K with rfl | ⟨rfl, rfl⟩ | ⟨rfl, rfl⟩
  all_goals
    go_enter Tryz.func163, Tryz.ntmps163
    go_wp2_with (first
      | (go_at_call 150; refine (HCC.out _).mono ?_; rintro e w1 ⟨rfl, hb⟩; have c3 := cellB hb (j := 3) rfl)
      | (go_at_call 151; refine (HCI.out _).mono ?_; rintro e w3 ⟨rfl, rfl⟩))
    go_ret
    exact ⟨by rw [HP.out]; rfl, below_pop hb⟩

set_option maxRecDepth 100000 in
set_option maxHeartbeats 800000 in
theorem kinds11 (r : RowV) (w : World) :
    Calls Tryz.prog 164 #[.agg r.vals] w fun e w' => e = .returned (.agg (inHas r).vals) ∧ Below w.heap.size w w' := by
  unfold RowV.vals inHas
  go_enter Tryz.func164, Tryz.ntmps164
  go_wp2
  go_returns
  exact ⟨rfl, ((Below.refl w.heap.size w).alloc (Nat.le_refl _) _).alloc (by simp) _⟩

set_option maxRecDepth 100000 in
set_option maxHeartbeats 800000 in
theorem rec_Check_sub (client topic : List UInt8) (qos : Int) (w : World) (hc : client.length ≤ 1000000) (ht : topic.length ≤ 1000000) :
    Calls Tryz.prog 53 #[.agg (RowV.mk 2 client 0 0 topic [] qos false 0).vals] w fun e w' => e = .returned (.int .i64 (if subMay ⟨2, client, 0, 0, topic, [], qos, false, 0⟩ then 0 else 2)) ∧ Below w.heap.size w w' := by
  have C7 := hid fun w => kinds4 ⟨2, client, 0, 0, topic, [], qos, false, 0⟩ w hc ht
  have C8 := hid fun w => kinds5 ⟨2, client, 0, 0, topic, [], qos, false, 0⟩ w
  have CK := hid rec_kinds
  clear hc ht
  obtain ⟨bm, hbm⟩ : ∃ b, subMay ⟨2, client, 0, 0, topic, [], qos, false, 0⟩ = b := ⟨_, rfl⟩
  rw [hbm] at C7 ⊢
  clear hbm
  unfold subHas at C8
  unfold RowV.vals at *
  go_enter Tryz.func53, Tryz.ntmps53
  go_wp2
  refine regionQ [(1000, fun w' => w'.cell? ⟨w.heap.size, 0, none⟩ = some (.int .i64 2))] (by kernel_rfl) ⟨by go_simp, trivial⟩ fun KQ hKQ => ?_
  refine takeQ 1 rfl (by kernel_rfl) rfl (by kernel_rfl) fun K hK => ?_
  simp only [List.getElem_toArray, List.getElem_cons_zero, List.getElem_cons_succ]
  go_big_quiet_op
  refine hK _ ?_
  clear hK K
  refine loadQ 2 rfl (by kernel_rfl) (by kernel_rfl) rfl rfl 0 rfl (by kernel_rfl) _ (fun w' hf => by (go_simp <;> with_reducible rfl)) ?_
  simp only [Act.put, List.getElem_toArray, List.getElem_cons_zero, List.getElem_cons_succ, List.setIfInBounds_toArray, List.set_cons_zero, List.set_cons_succ]
  refine stepQ2 0 7 rfl rfl (by kernel_rfl) (by decide) (by kernel_rfl) (by kernel_rfl) (fun K hK => ?_) (fun K hK => ?_)
  · try simp only [List.getElem_toArray, List.getElem_cons_zero, List.getElem_cons_succ]
    go_simp
    refine (CK.out _).mono ?_
    rintro e w1 ⟨rfl, hm, hb⟩
    replace hb := undrew hb
    replace hm : w1.heap[w.heap.size + 1]? = some (.map kindsE 5) := by simpa using hm
    have hlt : w.heap.size + 1 < w1.heap.size := by
      rcases Nat.lt_or_ge (w.heap.size + 1) w1.heap.size with h | h
      · exact h
      · rw [Array.getElem?_eq_none h] at hm; cases hm
    have hm' : ∀ o, (w1.alloc o).heap[w.heap.size + 1]? = some (.map kindsE 5) := fun o => (Below.heap_alloc _ _ _ hlt).trans hm
    have HL' := fun o => run_lookup_at (P := Tryz.prog) 189 30 187 .i64 Tryz.underlying189 Tryz.underlying30 _ _ kindsE 5 (hm' o) 2 _ 1 rfl true
    have HL := run_lookup_at (P := Tryz.prog) 189 30 187 .i64 Tryz.underlying189 Tryz.underlying30 _ _ kindsE 5 hm 2 _ 1 rfl true
    simp only [kindV] at HL HL'
    refine hK _ _ ⟨⟨fun _ => cellB hb (j := 0) rfl, trivial⟩, ?_⟩
    clear hK K
    refine stepQ2 3 7 rfl rfl (by kernel_rfl) (by decide) (by kernel_rfl) (by kernel_rfl) (fun K hK => ?_) (fun K hK => ?_)
    · try simp only [List.getElem_toArray, List.getElem_cons_zero, List.getElem_cons_succ]
      go_simp
      refine hK _ _ ⟨⟨fun _ => cellB hb (j := 0) rfl, trivial⟩, ?_⟩
      clear hK K
      refine takeQ 4 rfl (by kernel_rfl) rfl (by kernel_rfl) fun K hK => ?_
      simp only [List.getElem_toArray, List.getElem_cons_zero, List.getElem_cons_succ]
      go_big_quiet_op
      refine hK _ ?_
      clear hK K
      refine takeQ 5 rfl (by kernel_rfl) rfl (by kernel_rfl) fun K hK => ?_
      simp only [List.getElem_toArray, List.getElem_cons_zero, List.getElem_cons_succ]
      go_big_quiet_op
      refine hK _ ?_
      clear hK K
      refine takeQ 6 rfl (by kernel_rfl) rfl (by kernel_rfl) fun K hK => ?_
      simp only [List.getElem_toArray, List.getElem_cons_zero, List.getElem_cons_succ]
      go_big_quiet_op
      refine hK _ ?_
      clear hK K
      refine stepQ 7 rfl (by kernel_rfl) (by decide) (by kernel_rfl) fun K hK => ?_
      simp only [List.getElem_toArray, List.getElem_cons_zero, List.getElem_cons_succ]
      go_simp
      refine hK _ _ ⟨⟨fun _ => cellB (hb.alloc hb.size _) (j := 0) rfl, trivial⟩, ?_⟩
      clear hK K
      refine stepQ 8 rfl (by kernel_rfl) (by decide) (by kernel_rfl) fun K hK => ?_
      simp only [List.getElem_toArray, List.getElem_cons_zero, List.getElem_cons_succ]
      go_simp
      refine hK _ _ ⟨⟨fun _ => cellB (hb.alloc hb.size _) (j := 0) rfl, trivial⟩, ?_⟩
      clear hK K
      refine stepQ 9 rfl (by kernel_rfl) (by decide) (by kernel_rfl) fun K hK => ?_
      simp only [List.getElem_toArray, List.getElem_cons_zero, List.getElem_cons_succ]
      go_simp
      refine hK _ _ ⟨⟨fun _ => cellB (hb.alloc hb.size _) (j := 0) rfl, trivial⟩, ?_⟩
      clear hK K
      refine doneQ (by kernel_rfl) (hKQ.out _ _ ?_)
      clear hKQ KQ
      have g0 : ∀ o, (w1.alloc o).cell? ⟨w.heap.size, 0, none⟩ = _ := fun o => cellB (hb.alloc hb.size o) (j := 0) rfl
      have g1 : ∀ o, (w1.alloc o).cell? ⟨w.heap.size, 1, none⟩ = _ := fun o => cellB (hb.alloc hb.size o) (j := 1) rfl
      have g2 : ∀ o, (w1.alloc o).cell? ⟨w.heap.size, 2, none⟩ = _ := fun o => cellB (hb.alloc hb.size o) (j := 2) rfl
      have g3 : ∀ o, (w1.alloc o).cell? ⟨w.heap.size, 3, none⟩ = _ := fun o => cellB (hb.alloc hb.size o) (j := 3) rfl
      have g4 : ∀ o, (w1.alloc o).cell? ⟨w.heap.size, 4, none⟩ = _ := fun o => cellB (hb.alloc hb.size o) (j := 4) rfl
      have g5 : ∀ o, (w1.alloc o).cell? ⟨w.heap.size, 5, none⟩ = _ := fun o => cellB (hb.alloc hb.size o) (j := 5) rfl
      have g6 : ∀ o, (w1.alloc o).cell? ⟨w.heap.size, 6, none⟩ = _ := fun o => cellB (hb.alloc hb.size o) (j := 6) rfl
      have g7 : ∀ o, (w1.alloc o).cell? ⟨w.heap.size, 7, none⟩ = _ := fun o => cellB (hb.alloc hb.size o) (j := 7) rfl
      have g8 : ∀ o, (w1.alloc o).cell? ⟨w.heap.size, 8, none⟩ = _ := fun o => cellB (hb.alloc hb.size o) (j := 8) rfl
      cases bm
      · go_wp2_with (go_at_call 155; refine (C7.out _).mono ?_; rintro e w2 ⟨rfl, hb2⟩; replace hb2 := (hb.alloc hb.size _).trans (hb2.mono (hb.alloc hb.size _).size))
        go_ret
        exact ⟨rfl, ((Below.refl w.heap.size w).alloc (Nat.le_refl _) _).trans (hb2.mono (by simp))⟩
      · go_wp2_with (first
          | (go_at_call 155; refine (C7.out _).mono ?_; rintro e w2 ⟨rfl, hb2⟩; have f2 := cellB (w := w1) hb2 (j := 2) rfl; replace hb2 := (hb.alloc hb.size _).trans (hb2.mono (hb.alloc hb.size _).size)
             have g0 : w2.cell? ⟨w.heap.size, 0, none⟩ = _ := cellB hb2 (j := 0) rfl
             have g1 : w2.cell? ⟨w.heap.size, 1, none⟩ = _ := cellB hb2 (j := 1) rfl
             have g2 : w2.cell? ⟨w.heap.size, 2, none⟩ = _ := cellB hb2 (j := 2) rfl
             have g3 : w2.cell? ⟨w.heap.size, 3, none⟩ = _ := cellB hb2 (j := 3) rfl
             have g4 : w2.cell? ⟨w.heap.size, 4, none⟩ = _ := cellB hb2 (j := 4) rfl
             have g5 : w2.cell? ⟨w.heap.size, 5, none⟩ = _ := cellB hb2 (j := 5) rfl
             have g6 : w2.cell? ⟨w.heap.size, 6, none⟩ = _ := cellB hb2 (j := 6) rfl
             have g7 : w2.cell? ⟨w.heap.size, 7, none⟩ = _ := cellB hb2 (j := 7) rfl
             have g8 : w2.cell? ⟨w.heap.size, 8, none⟩ = _ := cellB hb2 (j := 8) rfl
            )
          | (go_at_call 156; refine (C8.out _).mono ?_; rintro e w3 ⟨rfl, hb3⟩; replace hb3 := hb2.trans (hb3.mono hb2.size)
             have g0 : ∀ o, (w3.alloc o).cell? ⟨w.heap.size, 0, none⟩ = _ := fun o => cellB (hb3.alloc hb3.size o) (j := 0) rfl
             have g1 : ∀ o, (w3.alloc o).cell? ⟨w.heap.size, 1, none⟩ = _ := fun o => cellB (hb3.alloc hb3.size o) (j := 1) rfl
             have g2 : ∀ o, (w3.alloc o).cell? ⟨w.heap.size, 2, none⟩ = _ := fun o => cellB (hb3.alloc hb3.size o) (j := 2) rfl
             have g3 : ∀ o, (w3.alloc o).cell? ⟨w.heap.size, 3, none⟩ = _ := fun o => cellB (hb3.alloc hb3.size o) (j := 3) rfl
             have g4 : ∀ o, (w3.alloc o).cell? ⟨w.heap.size, 4, none⟩ = _ := fun o => cellB (hb3.alloc hb3.size o) (j := 4) rfl
             have g5 : ∀ o, (w3.alloc o).cell? ⟨w.heap.size, 5, none⟩ = _ := fun o => cellB (hb3.alloc hb3.size o) (j := 5) rfl
             have g6 : ∀ o, (w3.alloc o).cell? ⟨w.heap.size, 6, none⟩ = _ := fun o => cellB (hb3.alloc hb3.size o) (j := 6) rfl
             have g7 : ∀ o, (w3.alloc o).cell? ⟨w.heap.size, 7, none⟩ = _ := fun o => cellB (hb3.alloc hb3.size o) (j := 7) rfl
             have g8 : ∀ o, (w3.alloc o).cell? ⟨w.heap.size, 8, none⟩ = _ := fun o => cellB (hb3.alloc hb3.size o) (j := 8) rfl
            ))
        go_ret
        exact ⟨rfl, (((Below.refl w.heap.size w).alloc (Nat.le_refl _) _).trans (hb3.mono (by simp))).alloc (by have := hb3.size; simp at this; omega) _⟩
    · try simp only [List.getElem_toArray, List.getElem_cons_zero, List.getElem_cons_succ]
      go_simp
      refine hK _ _ ⟨⟨fun _ => cellB (hb.alloc hb.size _) (j := 0) rfl, trivial⟩, ?_⟩
      clear hK K
      refine stepQ 3 rfl (by kernel_rfl) (by decide) (by kernel_rfl) fun K hK => ?_
      simp only [List.getElem_toArray, List.getElem_cons_zero, List.getElem_cons_succ]
      go_simp
      refine hK _ _ ⟨⟨fun _ => cellB (hb.alloc hb.size _) (j := 0) rfl, trivial⟩, ?_⟩
      clear hK K
      refine takeQ 4 rfl (by kernel_rfl) rfl (by kernel_rfl) fun K hK => ?_
      simp only [List.getElem_toArray, List.getElem_cons_zero, List.getElem_cons_succ]
      go_big_quiet_op
      refine hK _ ?_
      clear hK K
      refine takeQ 5 rfl (by kernel_rfl) rfl (by kernel_rfl) fun K hK => ?_
      simp only [List.getElem_toArray, List.getElem_cons_zero, List.getElem_cons_succ]
      go_big_quiet_op
      refine hK _ ?_
      clear hK K
      refine takeQ 6 rfl (by kernel_rfl) rfl (by kernel_rfl) fun K hK => ?_
      simp only [List.getElem_toArray, List.getElem_cons_zero, List.getElem_cons_succ]
      go_big_quiet_op
      refine hK _ ?_
      clear hK K
      refine stepQ 8 rfl (by kernel_rfl) (by decide) (by kernel_rfl) fun K hK => ?_
      simp only [List.getElem_toArray, List.getElem_cons_zero, List.getElem_cons_succ]
      go_simp
      refine hK _ _ ⟨⟨fun _ => cellB (hb.alloc hb.size _) (j := 0) rfl, trivial⟩, ?_⟩
      clear hK K
      refine stepQ 9 rfl (by kernel_rfl) (by decide) (by kernel_rfl) fun K hK => ?_
      simp only [List.getElem_toArray, List.getElem_cons_zero, List.getElem_cons_succ]
      go_simp
      refine hK _ _ ⟨⟨fun _ => cellB (hb.alloc hb.size _) (j := 0) rfl, trivial⟩, ?_⟩
      clear hK K
      refine doneQ (by kernel_rfl) (hKQ.out _ _ ?_)
      clear hKQ KQ
      have g0 : ∀ o, (w1.alloc o).cell? ⟨w.heap.size, 0, none⟩ = _ := fun o => cellB (hb.alloc hb.size o) (j := 0) rfl
      have g1 : ∀ o, (w1.alloc o).cell? ⟨w.heap.size, 1, none⟩ = _ := fun o => cellB (hb.alloc hb.size o) (j := 1) rfl
      have g2 : ∀ o, (w1.alloc o).cell? ⟨w.heap.size, 2, none⟩ = _ := fun o => cellB (hb.alloc hb.size o) (j := 2) rfl
      have g3 : ∀ o, (w1.alloc o).cell? ⟨w.heap.size, 3, none⟩ = _ := fun o => cellB (hb.alloc hb.size o) (j := 3) rfl
      have g4 : ∀ o, (w1.alloc o).cell? ⟨w.heap.size, 4, none⟩ = _ := fun o => cellB (hb.alloc hb.size o) (j := 4) rfl
      have g5 : ∀ o, (w1.alloc o).cell? ⟨w.heap.size, 5, none⟩ = _ := fun o => cellB (hb.alloc hb.size o) (j := 5) rfl
      have g6 : ∀ o, (w1.alloc o).cell? ⟨w.heap.size, 6, none⟩ = _ := fun o => cellB (hb.alloc hb.size o) (j := 6) rfl
      have g7 : ∀ o, (w1.alloc o).cell? ⟨w.heap.size, 7, none⟩ = _ := fun o => cellB (hb.alloc hb.size o) (j := 7) rfl
      have g8 : ∀ o, (w1.alloc o).cell? ⟨w.heap.size, 8, none⟩ = _ := fun o => cellB (hb.alloc hb.size o) (j := 8) rfl
      cases bm
      · go_wp2_with (go_at_call 155; refine (C7.out _).mono ?_; rintro e w2 ⟨rfl, hb2⟩; replace hb2 := (hb.alloc hb.size _).trans (hb2.mono (hb.alloc hb.size _).size))
        go_ret
        exact ⟨rfl, ((Below.refl w.heap.size w).alloc (Nat.le_refl _) _).trans (hb2.mono (by simp))⟩
      · go_wp2_with (first
          | (go_at_call 155; refine (C7.out _).mono ?_; rintro e w2 ⟨rfl, hb2⟩; have f2 := cellB (w := w1) hb2 (j := 2) rfl; replace hb2 := (hb.alloc hb.size _).trans (hb2.mono (hb.alloc hb.size _).size)
             have g0 : w2.cell? ⟨w.heap.size, 0, none⟩ = _ := cellB hb2 (j := 0) rfl
             have g1 : w2.cell? ⟨w.heap.size, 1, none⟩ = _ := cellB hb2 (j := 1) rfl
             have g2 : w2.cell? ⟨w.heap.size, 2, none⟩ = _ := cellB hb2 (j := 2) rfl
             have g3 : w2.cell? ⟨w.heap.size, 3, none⟩ = _ := cellB hb2 (j := 3) rfl
             have g4 : w2.cell? ⟨w.heap.size, 4, none⟩ = _ := cellB hb2 (j := 4) rfl
             have g5 : w2.cell? ⟨w.heap.size, 5, none⟩ = _ := cellB hb2 (j := 5) rfl
             have g6 : w2.cell? ⟨w.heap.size, 6, none⟩ = _ := cellB hb2 (j := 6) rfl
             have g7 : w2.cell? ⟨w.heap.size, 7, none⟩ = _ := cellB hb2 (j := 7) rfl
             have g8 : w2.cell? ⟨w.heap.size, 8, none⟩ = _ := cellB hb2 (j := 8) rfl
            )
          | (go_at_call 156; refine (C8.out _).mono ?_; rintro e w3 ⟨rfl, hb3⟩; replace hb3 := hb2.trans (hb3.mono hb2.size)
             have g0 : ∀ o, (w3.alloc o).cell? ⟨w.heap.size, 0, none⟩ = _ := fun o => cellB (hb3.alloc hb3.size o) (j := 0) rfl
             have g1 : ∀ o, (w3.alloc o).cell? ⟨w.heap.size, 1, none⟩ = _ := fun o => cellB (hb3.alloc hb3.size o) (j := 1) rfl
             have g2 : ∀ o, (w3.alloc o).cell? ⟨w.heap.size, 2, none⟩ = _ := fun o => cellB (hb3.alloc hb3.size o) (j := 2) rfl
             have g3 : ∀ o, (w3.alloc o).cell? ⟨w.heap.size, 3, none⟩ = _ := fun o => cellB (hb3.alloc hb3.size o) (j := 3) rfl
             have g4 : ∀ o, (w3.alloc o).cell? ⟨w.heap.size, 4, none⟩ = _ := fun o => cellB (hb3.alloc hb3.size o) (j := 4) rfl
             have g5 : ∀ o, (w3.alloc o).cell? ⟨w.heap.size, 5, none⟩ = _ := fun o => cellB (hb3.alloc hb3.size o) (j := 5) rfl
             have g6 : ∀ o, (w3.alloc o).cell? ⟨w.heap.size, 6, none⟩ = _ := fun o => cellB (hb3.alloc hb3.size o) (j := 6) rfl
             have g7 : ∀ o, (w3.alloc o).cell? ⟨w.heap.size, 7, none⟩ = _ := fun o => cellB (hb3.alloc hb3.size o) (j := 7) rfl
             have g8 : ∀ o, (w3.alloc o).cell? ⟨w.heap.size, 8, none⟩ = _ := fun o => cellB (hb3.alloc hb3.size o) (j := 8) rfl
            ))
        go_ret
        exact ⟨rfl, (((Below.refl w.heap.size w).alloc (Nat.le_refl _) _).trans (hb3.mono (by simp))).alloc (by have := hb3.size; simp at this; omega) _⟩
  · try simp only [List.getElem_toArray, List.getElem_cons_zero, List.getElem_cons_succ]
    go_simp
    refine hK _ _ ⟨⟨fun _ => by go_simp, trivial⟩, ?_⟩
    clear hK K
    refine stepQ 0 rfl (by kernel_rfl) (by decide) (by kernel_rfl) fun K hK => ?_
    simp only [List.getElem_toArray, List.getElem_cons_zero, List.getElem_cons_succ]
    go_simp
    refine (CK.out _).mono ?_
    rintro e w1 ⟨rfl, hm, hb⟩
    replace hb := undrew hb
    have hbr := below_pop hb
    have k0 := cellB hb (j := 0) rfl
    have k1 := cellB hb (j := 1) rfl
    have k2 := cellB hb (j := 2) rfl
    have k3 := cellB hb (j := 3) rfl
    have k4 := cellB hb (j := 4) rfl
    replace hm : w1.heap[w.heap.size + 2]? = some (.map kindsE 5) := by simpa using hm
    have HL := run_lookup_at (P := Tryz.prog) 189 30 187 .i64 Tryz.underlying189 Tryz.underlying30 _ _ kindsE 5 hm 2 _ 1 rfl true
    simp only [kindV] at HL
    refine hK _ _ ⟨⟨fun _ => cellB hbr (j := 0) rfl, trivial⟩, ?_⟩
    clear hK K
    refine stepQ 3 rfl (by kernel_rfl) (by decide) (by kernel_rfl) fun K hK => ?_
    simp only [List.getElem_toArray, List.getElem_cons_zero, List.getElem_cons_succ]
    go_simp
    refine hK _ _ ⟨⟨fun _ => cellB hbr (j := 0) rfl, trivial⟩, ?_⟩
    clear hK K
    refine takeQ 4 rfl (by kernel_rfl) rfl (by kernel_rfl) fun K hK => ?_
    simp only [List.getElem_toArray, List.getElem_cons_zero, List.getElem_cons_succ]
    go_big_quiet_op
    refine hK _ ?_
    clear hK K
    refine takeQ 5 rfl (by kernel_rfl) rfl (by kernel_rfl) fun K hK => ?_
    simp only [List.getElem_toArray, List.getElem_cons_zero, List.getElem_cons_succ]
    go_big_quiet_op
    refine hK _ ?_
    clear hK K
    refine takeQ 6 rfl (by kernel_rfl) rfl (by kernel_rfl) fun K hK => ?_
    simp only [List.getElem_toArray, List.getElem_cons_zero, List.getElem_cons_succ]
    go_big_quiet_op
    refine hK _ ?_
    clear hK K
    refine stepQ 8 rfl (by kernel_rfl) (by decide) (by kernel_rfl) fun K hK => ?_
    simp only [List.getElem_toArray, List.getElem_cons_zero, List.getElem_cons_succ]
    have z0 := frozenB hb 0
    have z1 := frozenB hb 1
    have z2 := frozenB hb 2
    have z3 := frozenB hb 3
    have z4 := frozenB hb 4
    simp only [World.size_alloc] at k0 k1 k2 k3 k4 z0 z1 z2 z3 z4
    go_simp
    have hbs := fun v0 v1 v2 v3 v4 => (((((hbr.setCell (p := ⟨w.heap.size + 1, 0, none⟩) (by simp) v0).setCell (p := ⟨w.heap.size + 1, 1, none⟩) (by simp) v1).setCell (p := ⟨w.heap.size + 1, 2, none⟩) (by simp) v2).setCell (p := ⟨w.heap.size + 1, 3, none⟩) (by simp) v3).setCell (p := ⟨w.heap.size + 1, 4, none⟩) (by simp) v4)
    refine hK _ _ ⟨⟨fun _ => cellB (hbs _ _ _ _ _) (j := 0) rfl, trivial⟩, ?_⟩
    clear hK K
    refine atR_gen (fun w' => Below (w.alloc (.cells #[.int .i64 2, .string ⟨client.toArray⟩, .int .i64 0, .int .i64 0, .string ⟨topic.toArray⟩, .string ⟨#[]⟩, .int .i64 qos, .bool false, .int .i64 0] 33)).heap.size (w.alloc (.cells #[.int .i64 2, .string ⟨client.toArray⟩, .int .i64 0, .int .i64 0, .string ⟨topic.toArray⟩, .string ⟨#[]⟩, .int .i64 qos, .bool false, .int .i64 0] 33)) w' ∧ w'.cell? ⟨w.heap.size + 1, 1, none⟩ = some (.func (.func 155) #[] #[]) ∧ w'.cell? ⟨w.heap.size + 1, 2, none⟩ = some (.func (.func 156) #[] #[]) ∧ w.heap.size + 1 < w'.heap.size) ⟨hbs _ _ _ _ _, by go_simp, by go_simp, by have := hb.size; simp at this ⊢; omega⟩ fun w2 ⟨hb, f1, f2, hlt⟩ => ?_
    refine stepQ 9 rfl (by kernel_rfl) (by decide) (by kernel_rfl) fun K hK => ?_
    simp only [List.getElem_toArray, List.getElem_cons_zero, List.getElem_cons_succ]
    go_simp
    refine hK _ _ ⟨⟨fun _ => cellB hb (j := 0) rfl, trivial⟩, ?_⟩
    clear hK K
    refine doneQ (by kernel_rfl) (hKQ.out _ _ ?_)
    clear hKQ KQ
    have g0 : w2.cell? ⟨w.heap.size, 0, none⟩ = _ := cellB hb (j := 0) rfl
    have g1 : w2.cell? ⟨w.heap.size, 1, none⟩ = _ := cellB hb (j := 1) rfl
    have g2 : w2.cell? ⟨w.heap.size, 2, none⟩ = _ := cellB hb (j := 2) rfl
    have g3 : w2.cell? ⟨w.heap.size, 3, none⟩ = _ := cellB hb (j := 3) rfl
    have g4 : w2.cell? ⟨w.heap.size, 4, none⟩ = _ := cellB hb (j := 4) rfl
    have g5 : w2.cell? ⟨w.heap.size, 5, none⟩ = _ := cellB hb (j := 5) rfl
    have g6 : w2.cell? ⟨w.heap.size, 6, none⟩ = _ := cellB hb (j := 6) rfl
    have g7 : w2.cell? ⟨w.heap.size, 7, none⟩ = _ := cellB hb (j := 7) rfl
    have g8 : w2.cell? ⟨w.heap.size, 8, none⟩ = _ := cellB hb (j := 8) rfl
    cases bm
    · go_wp2_with (go_at_call 155; refine (C7.out _).mono ?_; rintro e w3 ⟨rfl, hb2⟩; replace hb2 := hb.trans (hb2.mono hb.size))
      go_ret
      exact ⟨rfl, below_pop hb2⟩
    · go_wp2_with (first
        | (go_at_call 155; refine (C7.out _).mono ?_; rintro e w3 ⟨rfl, hb3⟩; have f3 := (hb3.cell (p := ⟨w.heap.size + 1, 2, none⟩) hlt).trans f2; replace hb3 := hb.trans (hb3.mono hb.size)
           have g0 : w3.cell? ⟨w.heap.size, 0, none⟩ = _ := cellB hb3 (j := 0) rfl
           have g1 : w3.cell? ⟨w.heap.size, 1, none⟩ = _ := cellB hb3 (j := 1) rfl
           have g2 : w3.cell? ⟨w.heap.size, 2, none⟩ = _ := cellB hb3 (j := 2) rfl
           have g3 : w3.cell? ⟨w.heap.size, 3, none⟩ = _ := cellB hb3 (j := 3) rfl
           have g4 : w3.cell? ⟨w.heap.size, 4, none⟩ = _ := cellB hb3 (j := 4) rfl
           have g5 : w3.cell? ⟨w.heap.size, 5, none⟩ = _ := cellB hb3 (j := 5) rfl
           have g6 : w3.cell? ⟨w.heap.size, 6, none⟩ = _ := cellB hb3 (j := 6) rfl
           have g7 : w3.cell? ⟨w.heap.size, 7, none⟩ = _ := cellB hb3 (j := 7) rfl
           have g8 : w3.cell? ⟨w.heap.size, 8, none⟩ = _ := cellB hb3 (j := 8) rfl
          )
        | (go_at_call 156; refine (C8.out _).mono ?_; rintro e w4 ⟨rfl, hb4⟩; replace hb4 := hb3.trans (hb4.mono hb3.size)
           have g0 : ∀ o, (w4.alloc o).cell? ⟨w.heap.size, 0, none⟩ = _ := fun o => cellB (hb4.alloc hb4.size o) (j := 0) rfl
           have g1 : ∀ o, (w4.alloc o).cell? ⟨w.heap.size, 1, none⟩ = _ := fun o => cellB (hb4.alloc hb4.size o) (j := 1) rfl
           have g2 : ∀ o, (w4.alloc o).cell? ⟨w.heap.size, 2, none⟩ = _ := fun o => cellB (hb4.alloc hb4.size o) (j := 2) rfl
           have g3 : ∀ o, (w4.alloc o).cell? ⟨w.heap.size, 3, none⟩ = _ := fun o => cellB (hb4.alloc hb4.size o) (j := 3) rfl
           have g4 : ∀ o, (w4.alloc o).cell? ⟨w.heap.size, 4, none⟩ = _ := fun o => cellB (hb4.alloc hb4.size o) (j := 4) rfl
           have g5 : ∀ o, (w4.alloc o).cell? ⟨w.heap.size, 5, none⟩ = _ := fun o => cellB (hb4.alloc hb4.size o) (j := 5) rfl
           have g6 : ∀ o, (w4.alloc o).cell? ⟨w.heap.size, 6, none⟩ = _ := fun o => cellB (hb4.alloc hb4.size o) (j := 6) rfl
           have g7 : ∀ o, (w4.alloc o).cell? ⟨w.heap.size, 7, none⟩ = _ := fun o => cellB (hb4.alloc hb4.size o) (j := 7) rfl
           have g8 : ∀ o, (w4.alloc o).cell? ⟨w.heap.size, 8, none⟩ = _ := fun o => cellB (hb4.alloc hb4.size o) (j := 8) rfl
          ))
      go_ret
      exact ⟨rfl, ((below_pop hb4).alloc (by have := (below_pop hb4).size; omega) _)⟩
set_option maxRecDepth 100000 in
set_option maxHeartbeats 800000 in
theorem rec_Check_in (client : List UInt8) (id : Int) (w : World) (hc : client.length ≤ 1000000) :
    Calls Tryz.prog 53 #[.agg (RowV.mk 4 client 0 id [] [] 0 false 0).vals] w fun e w' => e = .returned (.int .i64 (if inMay ⟨4, client, 0, id, [], [], 0, false, 0⟩ then 0 else 2)) ∧ Below w.heap.size w w' := by
  have C7 := hid fun w => kinds10 ⟨4, client, 0, id, [], [], 0, false, 0⟩ w hc
  have C8 := hid fun w => kinds11 ⟨4, client, 0, id, [], [], 0, false, 0⟩ w
  have CK := hid rec_kinds
  clear hc
  obtain ⟨bm, hbm⟩ : ∃ b, inMay ⟨4, client, 0, id, [], [], 0, false, 0⟩ = b := ⟨_, rfl⟩
  rw [hbm] at C7 ⊢
  clear hbm
  unfold inHas at C8
  unfold RowV.vals at *
  go_enter Tryz.func53, Tryz.ntmps53
  go_wp2
  refine regionQ [(1000, fun w' => w'.cell? ⟨w.heap.size, 0, none⟩ = some (.int .i64 4))] (by kernel_rfl) ⟨by go_simp, trivial⟩ fun KQ hKQ => ?_
  refine takeQ 1 rfl (by kernel_rfl) rfl (by kernel_rfl) fun K hK => ?_
  simp only [List.getElem_toArray, List.getElem_cons_zero, List.getElem_cons_succ]
  go_big_quiet_op
  refine hK _ ?_
  clear hK K
  refine loadQ 2 rfl (by kernel_rfl) (by kernel_rfl) rfl rfl 0 rfl (by kernel_rfl) _ (fun w' hf => by (go_simp <;> with_reducible rfl)) ?_
  simp only [Act.put, List.getElem_toArray, List.getElem_cons_zero, List.getElem_cons_succ, List.setIfInBounds_toArray, List.set_cons_zero, List.set_cons_succ]
  refine stepQ2 0 7 rfl rfl (by kernel_rfl) (by decide) (by kernel_rfl) (by kernel_rfl) (fun K hK => ?_) (fun K hK => ?_)
  · try simp only [List.getElem_toArray, List.getElem_cons_zero, List.getElem_cons_succ]
    go_simp
    refine (CK.out _).mono ?_
    rintro e w1 ⟨rfl, hm, hb⟩
    replace hb := undrew hb
    replace hm : w1.heap[w.heap.size + 1]? = some (.map kindsE 5) := by simpa using hm
    have hlt : w.heap.size + 1 < w1.heap.size := by
      rcases Nat.lt_or_ge (w.heap.size + 1) w1.heap.size with h | h
      · exact h
      · rw [Array.getElem?_eq_none h] at hm; cases hm
    have hm' : ∀ o, (w1.alloc o).heap[w.heap.size + 1]? = some (.map kindsE 5) := fun o => (Below.heap_alloc _ _ _ hlt).trans hm
    have HL' := fun o => run_lookup_at (P := Tryz.prog) 189 30 187 .i64 Tryz.underlying189 Tryz.underlying30 _ _ kindsE 5 (hm' o) 4 _ 3 rfl true
    have HL := run_lookup_at (P := Tryz.prog) 189 30 187 .i64 Tryz.underlying189 Tryz.underlying30 _ _ kindsE 5 hm 4 _ 3 rfl true
    simp only [kindV] at HL HL'
    refine hK _ _ ⟨⟨fun _ => cellB hb (j := 0) rfl, trivial⟩, ?_⟩
    clear hK K
    refine stepQ2 3 7 rfl rfl (by kernel_rfl) (by decide) (by kernel_rfl) (by kernel_rfl) (fun K hK => ?_) (fun K hK => ?_)
    · try simp only [List.getElem_toArray, List.getElem_cons_zero, List.getElem_cons_succ]
      go_simp
      refine hK _ _ ⟨⟨fun _ => cellB hb (j := 0) rfl, trivial⟩, ?_⟩
      clear hK K
      refine takeQ 4 rfl (by kernel_rfl) rfl (by kernel_rfl) fun K hK => ?_
      simp only [List.getElem_toArray, List.getElem_cons_zero, List.getElem_cons_succ]
      go_big_quiet_op
      refine hK _ ?_
      clear hK K
      refine takeQ 5 rfl (by kernel_rfl) rfl (by kernel_rfl) fun K hK => ?_
      simp only [List.getElem_toArray, List.getElem_cons_zero, List.getElem_cons_succ]
      go_big_quiet_op
      refine hK _ ?_
      clear hK K
      refine takeQ 6 rfl (by kernel_rfl) rfl (by kernel_rfl) fun K hK => ?_
      simp only [List.getElem_toArray, List.getElem_cons_zero, List.getElem_cons_succ]
      go_big_quiet_op
      refine hK _ ?_
      clear hK K
      refine stepQ 7 rfl (by kernel_rfl) (by decide) (by kernel_rfl) fun K hK => ?_
      simp only [List.getElem_toArray, List.getElem_cons_zero, List.getElem_cons_succ]
      go_simp
      refine hK _ _ ⟨⟨fun _ => cellB (hb.alloc hb.size _) (j := 0) rfl, trivial⟩, ?_⟩
      clear hK K
      refine stepQ 8 rfl (by kernel_rfl) (by decide) (by kernel_rfl) fun K hK => ?_
      simp only [List.getElem_toArray, List.getElem_cons_zero, List.getElem_cons_succ]
      go_simp
      refine hK _ _ ⟨⟨fun _ => cellB (hb.alloc hb.size _) (j := 0) rfl, trivial⟩, ?_⟩
      clear hK K
      refine stepQ 9 rfl (by kernel_rfl) (by decide) (by kernel_rfl) fun K hK => ?_
      simp only [List.getElem_toArray, List.getElem_cons_zero, List.getElem_cons_succ]
      go_simp
      refine hK _ _ ⟨⟨fun _ => cellB (hb.alloc hb.size _) (j := 0) rfl, trivial⟩, ?_⟩
      clear hK K
      refine doneQ (by kernel_rfl) (hKQ.out _ _ ?_)
      clear hKQ KQ
      have g0 : ∀ o, (w1.alloc o).cell? ⟨w.heap.size, 0, none⟩ = _ := fun o => cellB (hb.alloc hb.size o) (j := 0) rfl
      have g1 : ∀ o, (w1.alloc o).cell? ⟨w.heap.size, 1, none⟩ = _ := fun o => cellB (hb.alloc hb.size o) (j := 1) rfl
      have g2 : ∀ o, (w1.alloc o).cell? ⟨w.heap.size, 2, none⟩ = _ := fun o => cellB (hb.alloc hb.size o) (j := 2) rfl
      have g3 : ∀ o, (w1.alloc o).cell? ⟨w.heap.size, 3, none⟩ = _ := fun o => cellB (hb.alloc hb.size o) (j := 3) rfl
      have g4 : ∀ o, (w1.alloc o).cell? ⟨w.heap.size, 4, none⟩ = _ := fun o => cellB (hb.alloc hb.size o) (j := 4) rfl
      have g5 : ∀ o, (w1.alloc o).cell? ⟨w.heap.size, 5, none⟩ = _ := fun o => cellB (hb.alloc hb.size o) (j := 5) rfl
      have g6 : ∀ o, (w1.alloc o).cell? ⟨w.heap.size, 6, none⟩ = _ := fun o => cellB (hb.alloc hb.size o) (j := 6) rfl
      have g7 : ∀ o, (w1.alloc o).cell? ⟨w.heap.size, 7, none⟩ = _ := fun o => cellB (hb.alloc hb.size o) (j := 7) rfl
      have g8 : ∀ o, (w1.alloc o).cell? ⟨w.heap.size, 8, none⟩ = _ := fun o => cellB (hb.alloc hb.size o) (j := 8) rfl
      cases bm
      · go_wp2_with (go_at_call 163; refine (C7.out _).mono ?_; rintro e w2 ⟨rfl, hb2⟩; replace hb2 := (hb.alloc hb.size _).trans (hb2.mono (hb.alloc hb.size _).size))
        go_ret
        exact ⟨rfl, ((Below.refl w.heap.size w).alloc (Nat.le_refl _) _).trans (hb2.mono (by simp))⟩
      · go_wp2_with (first
          | (go_at_call 163; refine (C7.out _).mono ?_; rintro e w2 ⟨rfl, hb2⟩; have f2 := cellB (w := w1) hb2 (j := 2) rfl; replace hb2 := (hb.alloc hb.size _).trans (hb2.mono (hb.alloc hb.size _).size)
             have g0 : w2.cell? ⟨w.heap.size, 0, none⟩ = _ := cellB hb2 (j := 0) rfl
             have g1 : w2.cell? ⟨w.heap.size, 1, none⟩ = _ := cellB hb2 (j := 1) rfl
             have g2 : w2.cell? ⟨w.heap.size, 2, none⟩ = _ := cellB hb2 (j := 2) rfl
             have g3 : w2.cell? ⟨w.heap.size, 3, none⟩ = _ := cellB hb2 (j := 3) rfl
             have g4 : w2.cell? ⟨w.heap.size, 4, none⟩ = _ := cellB hb2 (j := 4) rfl
             have g5 : w2.cell? ⟨w.heap.size, 5, none⟩ = _ := cellB hb2 (j := 5) rfl
             have g6 : w2.cell? ⟨w.heap.size, 6, none⟩ = _ := cellB hb2 (j := 6) rfl
             have g7 : w2.cell? ⟨w.heap.size, 7, none⟩ = _ := cellB hb2 (j := 7) rfl
             have g8 : w2.cell? ⟨w.heap.size, 8, none⟩ = _ := cellB hb2 (j := 8) rfl
            )
          | (go_at_call 164; refine (C8.out _).mono ?_; rintro e w3 ⟨rfl, hb3⟩; replace hb3 := hb2.trans (hb3.mono hb2.size)
             have g0 : ∀ o, (w3.alloc o).cell? ⟨w.heap.size, 0, none⟩ = _ := fun o => cellB (hb3.alloc hb3.size o) (j := 0) rfl
             have g1 : ∀ o, (w3.alloc o).cell? ⟨w.heap.size, 1, none⟩ = _ := fun o => cellB (hb3.alloc hb3.size o) (j := 1) rfl
             have g2 : ∀ o, (w3.alloc o).cell? ⟨w.heap.size, 2, none⟩ = _ := fun o => cellB (hb3.alloc hb3.size o) (j := 2) rfl
             have g3 : ∀ o, (w3.alloc o).cell? ⟨w.heap.size, 3, none⟩ = _ := fun o => cellB (hb3.alloc hb3.size o) (j := 3) rfl
             have g4 : ∀ o, (w3.alloc o).cell? ⟨w.heap.size, 4, none⟩ = _ := fun o => cellB (hb3.alloc hb3.size o) (j := 4) rfl
             have g5 : ∀ o, (w3.alloc o).cell? ⟨w.heap.size, 5, none⟩ = _ := fun o => cellB (hb3.alloc hb3.size o) (j := 5) rfl
             have g6 : ∀ o, (w3.alloc o).cell? ⟨w.heap.size, 6, none⟩ = _ := fun o => cellB (hb3.alloc hb3.size o) (j := 6) rfl
             have g7 : ∀ o, (w3.alloc o).cell? ⟨w.heap.size, 7, none⟩ = _ := fun o => cellB (hb3.alloc hb3.size o) (j := 7) rfl
             have g8 : ∀ o, (w3.alloc o).cell? ⟨w.heap.size, 8, none⟩ = _ := fun o => cellB (hb3.alloc hb3.size o) (j := 8) rfl
            ))
        go_ret
        exact ⟨rfl, (((Below.refl w.heap.size w).alloc (Nat.le_refl _) _).trans (hb3.mono (by simp))).alloc (by have := hb3.size; simp at this; omega) _⟩
    · try simp only [List.getElem_toArray, List.getElem_cons_zero, List.getElem_cons_succ]
      go_simp
      refine hK _ _ ⟨⟨fun _ => cellB (hb.alloc hb.size _) (j := 0) rfl, trivial⟩, ?_⟩
      clear hK K
      refine stepQ 3 rfl (by kernel_rfl) (by decide) (by kernel_rfl) fun K hK => ?_
      simp only [List.getElem_toArray, List.getElem_cons_zero, List.getElem_cons_succ]
      go_simp
      refine hK _ _ ⟨⟨fun _ => cellB (hb.alloc hb.size _) (j := 0) rfl, trivial⟩, ?_⟩
      clear hK K
      refine takeQ 4 rfl (by kernel_rfl) rfl (by kernel_rfl) fun K hK => ?_
      simp only [List.getElem_toArray, List.getElem_cons_zero, List.getElem_cons_succ]
      go_big_quiet_op
      refine hK _ ?_
      clear hK K
      refine takeQ 5 rfl (by kernel_rfl) rfl (by kernel_rfl) fun K hK => ?_
      simp only [List.getElem_toArray, List.getElem_cons_zero, List.getElem_cons_succ]
      go_big_quiet_op
      refine hK _ ?_
      clear hK K
      refine takeQ 6 rfl (by kernel_rfl) rfl (by kernel_rfl) fun K hK => ?_
      simp only [List.getElem_toArray, List.getElem_cons_zero, List.getElem_cons_succ]
      go_big_quiet_op
      refine hK _ ?_
      clear hK K
      refine stepQ 8 rfl (by kernel_rfl) (by decide) (by kernel_rfl) fun K hK => ?_
      simp only [List.getElem_toArray, List.getElem_cons_zero, List.getElem_cons_succ]
      go_simp
      refine hK _ _ ⟨⟨fun _ => cellB (hb.alloc hb.size _) (j := 0) rfl, trivial⟩, ?_⟩
      clear hK K
      refine stepQ 9 rfl (by kernel_rfl) (by decide) (by kernel_rfl) fun K hK => ?_
      simp only [List.getElem_toArray, List.getElem_cons_zero, List.getElem_cons_succ]
      go_simp
      refine hK _ _ ⟨⟨fun _ => cellB (hb.alloc hb.size _) (j := 0) rfl, trivial⟩, ?_⟩
      clear hK K
      refine doneQ (by kernel_rfl) (hKQ.out _ _ ?_)
      clear hKQ KQ
      have g0 : ∀ o, (w1.alloc o).cell? ⟨w.heap.size, 0, none⟩ = _ := fun o => cellB (hb.alloc hb.size o) (j := 0) rfl
      have g1 : ∀ o, (w1.alloc o).cell? ⟨w.heap.size, 1, none⟩ = _ := fun o => cellB (hb.alloc hb.size o) (j := 1) rfl
      have g2 : ∀ o, (w1.alloc o).cell? ⟨w.heap.size, 2, none⟩ = _ := fun o => cellB (hb.alloc hb.size o) (j := 2) rfl
      have g3 : ∀ o, (w1.alloc o).cell? ⟨w.heap.size, 3, none⟩ = _ := fun o => cellB (hb.alloc hb.size o) (j := 3) rfl
      have g4 : ∀ o, (w1.alloc o).cell? ⟨w.heap.size, 4, none⟩ = _ := fun o => cellB (hb.alloc hb.size o) (j := 4) rfl
      have g5 : ∀ o, (w1.alloc o).cell? ⟨w.heap.size, 5, none⟩ = _ := fun o => cellB (hb.alloc hb.size o) (j := 5) rfl
      have g6 : ∀ o, (w1.alloc o).cell? ⟨w.heap.size, 6, none⟩ = _ := fun o => cellB (hb.alloc hb.size o) (j := 6) rfl
      have g7 : ∀ o, (w1.alloc o).cell? ⟨w.heap.size, 7, none⟩ = _ := fun o => cellB (hb.alloc hb.size o) (j := 7) rfl
      have g8 : ∀ o, (w1.alloc o).cell? ⟨w.heap.size, 8, none⟩ = _ := fun o => cellB (hb.alloc hb.size o) (j := 8) rfl
      cases bm
      · go_wp2_with (go_at_call 163; refine (C7.out _).mono ?_; rintro e w2 ⟨rfl, hb2⟩; replace hb2 := (hb.alloc hb.size _).trans (hb2.mono (hb.alloc hb.size _).size))
        go_ret
        exact ⟨rfl, ((Below.refl w.heap.size w).alloc (Nat.le_refl _) _).trans (hb2.mono (by simp))⟩
      · go_wp2_with (first
          | (go_at_call 163; refine (C7.out _).mono ?_; rintro e w2 ⟨rfl, hb2⟩; have f2 := cellB (w := w1) hb2 (j := 2) rfl; replace hb2 := (hb.alloc hb.size _).trans (hb2.mono (hb.alloc hb.size _).size)
             have g0 : w2.cell? ⟨w.heap.size, 0, none⟩ = _ := cellB hb2 (j := 0) rfl
             have g1 : w2.cell? ⟨w.heap.size, 1, none⟩ = _ := cellB hb2 (j := 1) rfl
             have g2 : w2.cell? ⟨w.heap.size, 2, none⟩ = _ := cellB hb2 (j := 2) rfl
             have g3 : w2.cell? ⟨w.heap.size, 3, none⟩ = _ := cellB hb2 (j := 3) rfl
             have g4 : w2.cell? ⟨w.heap.size, 4, none⟩ = _ := cellB hb2 (j := 4) rfl
             have g5 : w2.cell? ⟨w.heap.size, 5, none⟩ = _ := cellB hb2 (j := 5) rfl
             have g6 : w2.cell? ⟨w.heap.size, 6, none⟩ = _ := cellB hb2 (j := 6) rfl
             have g7 : w2.cell? ⟨w.heap.size, 7, none⟩ = _ := cellB hb2 (j := 7) rfl
             have g8 : w2.cell? ⟨w.heap.size, 8, none⟩ = _ := cellB hb2 (j := 8) rfl
            )
          | (go_at_call 164; refine (C8.out _).mono ?_; rintro e w3 ⟨rfl, hb3⟩; replace hb3 := hb2.trans (hb3.mono hb2.size)
             have g0 : ∀ o, (w3.alloc o).cell? ⟨w.heap.size, 0, none⟩ = _ := fun o => cellB (hb3.alloc hb3.size o) (j := 0) rfl
             have g1 : ∀ o, (w3.alloc o).cell? ⟨w.heap.size, 1, none⟩ = _ := fun o => cellB (hb3.alloc hb3.size o) (j := 1) rfl
             have g2 : ∀ o, (w3.alloc o).cell? ⟨w.heap.size, 2, none⟩ = _ := fun o => cellB (hb3.alloc hb3.size o) (j := 2) rfl
             have g3 : ∀ o, (w3.alloc o).cell? ⟨w.heap.size, 3, none⟩ = _ := fun o => cellB (hb3.alloc hb3.size o) (j := 3) rfl
             have g4 : ∀ o, (w3.alloc o).cell? ⟨w.heap.size, 4, none⟩ = _ := fun o => cellB (hb3.alloc hb3.size o) (j := 4) rfl
             have g5 : ∀ o, (w3.alloc o).cell? ⟨w.heap.size, 5, none⟩ = _ := fun o => cellB (hb3.alloc hb3.size o) (j := 5) rfl
             have g6 : ∀ o, (w3.alloc o).cell? ⟨w.heap.size, 6, none⟩ = _ := fun o => cellB (hb3.alloc hb3.size o) (j := 6) rfl
             have g7 : ∀ o, (w3.alloc o).cell? ⟨w.heap.size, 7, none⟩ = _ := fun o => cellB (hb3.alloc hb3.size o) (j := 7) rfl
             have g8 : ∀ o, (w3.alloc o).cell? ⟨w.heap.size, 8, none⟩ = _ := fun o => cellB (hb3.alloc hb3.size o) (j := 8) rfl
            ))
        go_ret
        exact ⟨rfl, (((Below.refl w.heap.size w).alloc (Nat.le_refl _) _).trans (hb3.mono (by simp))).alloc (by have := hb3.size; simp at this; omega) _⟩
  · try simp only [List.getElem_toArray, List.getElem_cons_zero, List.getElem_cons_succ]
    go_simp
    refine hK _ _ ⟨⟨fun _ => by go_simp, trivial⟩, ?_⟩
    clear hK K
    refine stepQ 0 rfl (by kernel_rfl) (by decide) (by kernel_rfl) fun K hK => ?_
    simp only [List.getElem_toArray, List.getElem_cons_zero, List.getElem_cons_succ]
    go_simp
    refine (CK.out _).mono ?_
    rintro e w1 ⟨rfl, hm, hb⟩
    replace hb := undrew hb
    have hbr := below_pop hb
    have k0 := cellB hb (j := 0) rfl
    have k1 := cellB hb (j := 1) rfl
    have k2 := cellB hb (j := 2) rfl
    have k3 := cellB hb (j := 3) rfl
    have k4 := cellB hb (j := 4) rfl
    replace hm : w1.heap[w.heap.size + 2]? = some (.map kindsE 5) := by simpa using hm
    have HL := run_lookup_at (P := Tryz.prog) 189 30 187 .i64 Tryz.underlying189 Tryz.underlying30 _ _ kindsE 5 hm 4 _ 3 rfl true
    simp only [kindV] at HL
    refine hK _ _ ⟨⟨fun _ => cellB hbr (j := 0) rfl, trivial⟩, ?_⟩
    clear hK K
    refine stepQ 3 rfl (by kernel_rfl) (by decide) (by kernel_rfl) fun K hK => ?_
    simp only [List.getElem_toArray, List.getElem_cons_zero, List.getElem_cons_succ]
    go_simp
    refine hK _ _ ⟨⟨fun _ => cellB hbr (j := 0) rfl, trivial⟩, ?_⟩
    clear hK K
    refine takeQ 4 rfl (by kernel_rfl) rfl (by kernel_rfl) fun K hK => ?_
    simp only [List.getElem_toArray, List.getElem_cons_zero, List.getElem_cons_succ]
    go_big_quiet_op
    refine hK _ ?_
    clear hK K
    refine takeQ 5 rfl (by kernel_rfl) rfl (by kernel_rfl) fun K hK => ?_
    simp only [List.getElem_toArray, List.getElem_cons_zero, List.getElem_cons_succ]
    go_big_quiet_op
    refine hK _ ?_
    clear hK K
    refine takeQ 6 rfl (by kernel_rfl) rfl (by kernel_rfl) fun K hK => ?_
    simp only [List.getElem_toArray, List.getElem_cons_zero, List.getElem_cons_succ]
    go_big_quiet_op
    refine hK _ ?_
    clear hK K
    refine stepQ 8 rfl (by kernel_rfl) (by decide) (by kernel_rfl) fun K hK => ?_
    simp only [List.getElem_toArray, List.getElem_cons_zero, List.getElem_cons_succ]
    have z0 := frozenB hb 0
    have z1 := frozenB hb 1
    have z2 := frozenB hb 2
    have z3 := frozenB hb 3
    have z4 := frozenB hb 4
    simp only [World.size_alloc] at k0 k1 k2 k3 k4 z0 z1 z2 z3 z4
    go_simp
    have hbs := fun v0 v1 v2 v3 v4 => (((((hbr.setCell (p := ⟨w.heap.size + 1, 0, none⟩) (by simp) v0).setCell (p := ⟨w.heap.size + 1, 1, none⟩) (by simp) v1).setCell (p := ⟨w.heap.size + 1, 2, none⟩) (by simp) v2).setCell (p := ⟨w.heap.size + 1, 3, none⟩) (by simp) v3).setCell (p := ⟨w.heap.size + 1, 4, none⟩) (by simp) v4)
    refine hK _ _ ⟨⟨fun _ => cellB (hbs _ _ _ _ _) (j := 0) rfl, trivial⟩, ?_⟩
    clear hK K
    refine atR_gen (fun w' => Below (w.alloc (.cells #[.int .i64 4, .string ⟨client.toArray⟩, .int .i64 0, .int .i64 id, .string ⟨#[]⟩, .string ⟨#[]⟩, .int .i64 0, .bool false, .int .i64 0] 33)).heap.size (w.alloc (.cells #[.int .i64 4, .string ⟨client.toArray⟩, .int .i64 0, .int .i64 id, .string ⟨#[]⟩, .string ⟨#[]⟩, .int .i64 0, .bool false, .int .i64 0] 33)) w' ∧ w'.cell? ⟨w.heap.size + 1, 1, none⟩ = some (.func (.func 163) #[] #[]) ∧ w'.cell? ⟨w.heap.size + 1, 2, none⟩ = some (.func (.func 164) #[] #[]) ∧ w.heap.size + 1 < w'.heap.size) ⟨hbs _ _ _ _ _, by go_simp, by go_simp, by have := hb.size; simp at this ⊢; omega⟩ fun w2 ⟨hb, f1, f2, hlt⟩ => ?_
    refine stepQ 9 rfl (by kernel_rfl) (by decide) (by kernel_rfl) fun K hK => ?_
    simp only [List.getElem_toArray, List.getElem_cons_zero, List.getElem_cons_succ]
    go_simp
    refine hK _ _ ⟨⟨fun _ => cellB hb (j := 0) rfl, trivial⟩, ?_⟩
    clear hK K
    refine doneQ (by kernel_rfl) (hKQ.out _ _ ?_)
    clear hKQ KQ
    have g0 : w2.cell? ⟨w.heap.size, 0, none⟩ = _ := cellB hb (j := 0) rfl
    have g1 : w2.cell? ⟨w.heap.size, 1, none⟩ = _ := cellB hb (j := 1) rfl
    have g2 : w2.cell? ⟨w.heap.size, 2, none⟩ = _ := cellB hb (j := 2) rfl
    have g3 : w2.cell? ⟨w.heap.size, 3, none⟩ = _ := cellB hb (j := 3) rfl
    have g4 : w2.cell? ⟨w.heap.size, 4, none⟩ = _ := cellB hb (j := 4) rfl
    have g5 : w2.cell? ⟨w.heap.size, 5, none⟩ = _ := cellB hb (j := 5) rfl
    have g6 : w2.cell? ⟨w.heap.size, 6, none⟩ = _ := cellB hb (j := 6) rfl
    have g7 : w2.cell? ⟨w.heap.size, 7, none⟩ = _ := cellB hb (j := 7) rfl
    have g8 : w2.cell? ⟨w.heap.size, 8, none⟩ = _ := cellB hb (j := 8) rfl
    cases bm
    · go_wp2_with (go_at_call 163; refine (C7.out _).mono ?_; rintro e w3 ⟨rfl, hb2⟩; replace hb2 := hb.trans (hb2.mono hb.size))
      go_ret
      exact ⟨rfl, below_pop hb2⟩
    · go_wp2_with (first
        | (go_at_call 163; refine (C7.out _).mono ?_; rintro e w3 ⟨rfl, hb3⟩; have f3 := (hb3.cell (p := ⟨w.heap.size + 1, 2, none⟩) hlt).trans f2; replace hb3 := hb.trans (hb3.mono hb.size)
           have g0 : w3.cell? ⟨w.heap.size, 0, none⟩ = _ := cellB hb3 (j := 0) rfl
           have g1 : w3.cell? ⟨w.heap.size, 1, none⟩ = _ := cellB hb3 (j := 1) rfl
           have g2 : w3.cell? ⟨w.heap.size, 2, none⟩ = _ := cellB hb3 (j := 2) rfl
           have g3 : w3.cell? ⟨w.heap.size, 3, none⟩ = _ := cellB hb3 (j := 3) rfl
           have g4 : w3.cell? ⟨w.heap.size, 4, none⟩ = _ := cellB hb3 (j := 4) rfl
           have g5 : w3.cell? ⟨w.heap.size, 5, none⟩ = _ := cellB hb3 (j := 5) rfl
           have g6 : w3.cell? ⟨w.heap.size, 6, none⟩ = _ := cellB hb3 (j := 6) rfl
           have g7 : w3.cell? ⟨w.heap.size, 7, none⟩ = _ := cellB hb3 (j := 7) rfl
           have g8 : w3.cell? ⟨w.heap.size, 8, none⟩ = _ := cellB hb3 (j := 8) rfl
          )
        | (go_at_call 164; refine (C8.out _).mono ?_; rintro e w4 ⟨rfl, hb4⟩; replace hb4 := hb3.trans (hb4.mono hb3.size)
           have g0 : ∀ o, (w4.alloc o).cell? ⟨w.heap.size, 0, none⟩ = _ := fun o => cellB (hb4.alloc hb4.size o) (j := 0) rfl
           have g1 : ∀ o, (w4.alloc o).cell? ⟨w.heap.size, 1, none⟩ = _ := fun o => cellB (hb4.alloc hb4.size o) (j := 1) rfl
           have g2 : ∀ o, (w4.alloc o).cell? ⟨w.heap.size, 2, none⟩ = _ := fun o => cellB (hb4.alloc hb4.size o) (j := 2) rfl
           have g3 : ∀ o, (w4.alloc o).cell? ⟨w.heap.size, 3, none⟩ = _ := fun o => cellB (hb4.alloc hb4.size o) (j := 3) rfl
           have g4 : ∀ o, (w4.alloc o).cell? ⟨w.heap.size, 4, none⟩ = _ := fun o => cellB (hb4.alloc hb4.size o) (j := 4) rfl
           have g5 : ∀ o, (w4.alloc o).cell? ⟨w.heap.size, 5, none⟩ = _ := fun o => cellB (hb4.alloc hb4.size o) (j := 5) rfl
           have g6 : ∀ o, (w4.alloc o).cell? ⟨w.heap.size, 6, none⟩ = _ := fun o => cellB (hb4.alloc hb4.size o) (j := 6) rfl
           have g7 : ∀ o, (w4.alloc o).cell? ⟨w.heap.size, 7, none⟩ = _ := fun o => cellB (hb4.alloc hb4.size o) (j := 7) rfl
           have g8 : ∀ o, (w4.alloc o).cell? ⟨w.heap.size, 8, none⟩ = _ := fun o => cellB (hb4.alloc hb4.size o) (j := 8) rfl
          ))
      go_ret
      exact ⟨rfl, ((below_pop hb4).alloc (by have := (below_pop hb4).size; omega) _)⟩
end Go.Proofs.YtoinabapaeebfaaGreatDoor
