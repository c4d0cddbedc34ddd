/- Contracts of package records (part 7): a row that waits, or is under way, may be. · The reference of layers 13 and 19: may a client, a name, a row be? · The reference of layer 20: is a row the same one; find. · The reference of layer 22: are two lists of rows the same? -/
import Derived.Test.YtoinabapaeebfaaGreatDoorPk17
import Derived.Test.YtoinabapaeebfaaGreatDoorPk12
import Derived.Test.YtoinabapaeebfaaGreatDoorPk15
set_option linter.unusedSimpArgs false
set_option linter.unusedVariables false
namespace Go.Proofs.YtoinabapaeebfaaGreatDoor
open Go.RowKit Go.Shelf

/-- May its stage be? -/
def stageOK (r : RowV) : Prop := r.stage = 1 ∧ r.id = 0 ∨ (1 ≤ r.id ∧ r.id ≤ 65535) ∧ (r.stage = 2 ∨ r.stage = 3 ∧ r.qos = 2)

set_option maxRecDepth 100000 in
set_option maxHeartbeats 800000 in
theorem kinds7_good (r : RowV) (w : World) (hs : (1 ≤ r.id ∧ r.id ≤ 65535) ∧ (r.stage = 2 ∨ r.stage = 3 ∧ r.qos = 2)) (hm : putMay r = true) (hc : r.client.length ≤ 9223372036854775807) (ht : r.topic.length ≤ 9223372036854775807) (hA : AnyOK r.topic) :
    Calls Tryz.prog 159 #[.agg r.vals] w fun e w' => e = .returned (.bool true) ∧ Below w.heap.size w w' := by
  obtain ⟨kind, client, seq, id, topic, body, qos, retain, stage⟩ := r
  simp only at hs hc ht hA
  unfold putMay at hm
  simp only [Bool.and_eq_true] at hm
  obtain ⟨⟨⟨⟨hbc, hbs⟩, hbn⟩, hbb⟩, hbq⟩ := hm
  have CC := fun w => rec_client client w hc
  rw [hbc] at CC
  have CN := fun w => topic_Name topic w ht hA
  rw [hbn] at CN
  have CS := rec_within_b seq 0 4611686018427387904 true (by simpa using hbs)
  have CQ := rec_within_b qos 1 2 true (by simpa using hbq)
  have CI := rec_within_b id 1 65535 true (by simpa using hs.1)
  have hsz : ByteArray.size ⟨body.toArray⟩ = body.length := by simp [ByteArray.size]
  have HCC := hid CC
  have HCN := hid CN
  have HCS := hid CS
  have HCQ := hid CQ
  have HCI := hid CI
  have hle : (body.length : Int) ≤ 2000 := of_decide_eq_true hbb
  clear CC CN CS CQ CI hbc hbs hbn hbq hc ht hA hbb
  unfold RowV.vals
  obtain ⟨hi, rfl | ⟨rfl, rfl⟩⟩ := hs
  all_goals
    clear hi
    go_enter Tryz.func159, Tryz.ntmps159
    go_wp2_with (first
      | (go_at_call 150; refine (HCC.out _).mono ?_; rintro e w1 ⟨rfl, hb⟩; have c2 := cellB hb (j := 2) rfl; have c4 := cellB hb (j := 4) rfl)
      | (go_at_call 63; refine (HCN.out _).mono ?_; rintro e w2 ⟨rfl, hb2⟩; replace hb := hb.trans (hb2.mono hb.size); have c5 := cellB hb (j := 5) rfl; have c6 := cellB hb (j := 6) rfl)
      | (go_at_call 151; refine (HCI.out _).mono ?_; rintro e w3 ⟨rfl, rfl⟩; clear HCI)
      | (go_at_call 151; refine (HCS.out _).mono ?_; rintro e w3 ⟨rfl, rfl⟩; clear HCS)
      | (go_at_call 151; refine (HCQ.out _).mono ?_; rintro e w3 ⟨rfl, rfl⟩))
    go_ret
    refine ⟨rfl, ?_⟩
    first | exact (Below.refl _ _).alloc (Nat.le_refl _) _ |>.trans (hb.mono (by simp)) | exact ((Below.refl w.heap.size w).alloc (Nat.le_refl _) _).trans (hb.mono (by simp))

set_option maxRecDepth 100000 in
set_option maxHeartbeats 800000 in
theorem rec_Check_out (r : RowV) (w : World) (hkd : r.kind = 3) (bm : Bool) (hC : ∀ w, Calls Tryz.prog 159 #[.agg r.vals] w fun e w' => e = .returned (.bool bm) ∧ Below w.heap.size w w') :
    Calls Tryz.prog 53 #[.agg r.vals] w fun e w' => e = .returned (.int .i64 (if bm then 0 else 2)) ∧ Below w.heap.size w w' := by
  have C7 := hid hC
  have C8 := hid fun w => kinds8 r w
  have CK := hid rec_kinds
  clear hC
  obtain ⟨kind, client, seq, id, topic, body, qos, retain, stage⟩ := r
  simp only at hkd
  subst hkd
  unfold RowV.vals at *
  go_enter Tryz.func53, Tryz.ntmps53
  go_wp2
  refine regionQ [(1000, fun w' => w'.cell? ⟨w.heap.size, 0, none⟩ = some (.int .i64 3))] (by kernel_rfl) ⟨by go_simp, trivial⟩ fun KQ hKQ => ?_
  refine takeQ 1 rfl (by kernel_rfl) rfl (by kernel_rfl) fun K hK => ?_
  simp only [List.getElem_toArray, List.getElem_cons_zero, List.getElem_cons_succ]
  go_big_quiet_op
  refine hK _ ?_
  clear hK K
  refine loadQ 2 rfl (by kernel_rfl) (by kernel_rfl) rfl rfl 0 rfl (by kernel_rfl) _ (fun w' hf => by (go_simp <;> with_reducible rfl)) ?_
  simp only [Act.put, List.getElem_toArray, List.getElem_cons_zero, List.getElem_cons_succ, List.setIfInBounds_toArray, List.set_cons_zero, List.set_cons_succ]
  refine stepQ2 0 7 rfl rfl (by kernel_rfl) (by decide) (by kernel_rfl) (by kernel_rfl) (fun K hK => ?_) (fun K hK => ?_)
  · try simp only [List.getElem_toArray, List.getElem_cons_zero, List.getElem_cons_succ]
    go_simp
    refine (CK.out _).mono ?_
    rintro e w1 ⟨rfl, hm, hb⟩
    replace hb := undrew hb
    replace hm : w1.heap[w.heap.size + 1]? = some (.map kindsE 5) := by simpa using hm
    have hlt : w.heap.size + 1 < w1.heap.size := by
      rcases Nat.lt_or_ge (w.heap.size + 1) w1.heap.size with h | h
      · exact h
      · rw [Array.getElem?_eq_none h] at hm; cases hm
    have hm' : ∀ o, (w1.alloc o).heap[w.heap.size + 1]? = some (.map kindsE 5) := fun o => (Below.heap_alloc _ _ _ hlt).trans hm
    have HL' := fun o => run_lookup_at (P := Tryz.prog) 189 30 187 .i64 Tryz.underlying189 Tryz.underlying30 _ _ kindsE 5 (hm' o) 3 _ 2 rfl true
    have HL := run_lookup_at (P := Tryz.prog) 189 30 187 .i64 Tryz.underlying189 Tryz.underlying30 _ _ kindsE 5 hm 3 _ 2 rfl true
    simp only [kindV] at HL HL'
    refine hK _ _ ⟨⟨fun _ => cellB hb (j := 0) rfl, trivial⟩, ?_⟩
    clear hK K
    refine stepQ2 3 7 rfl rfl (by kernel_rfl) (by decide) (by kernel_rfl) (by kernel_rfl) (fun K hK => ?_) (fun K hK => ?_)
    · try simp only [List.getElem_toArray, List.getElem_cons_zero, List.getElem_cons_succ]
      go_simp
      refine hK _ _ ⟨⟨fun _ => cellB hb (j := 0) rfl, trivial⟩, ?_⟩
      clear hK K
      refine takeQ 4 rfl (by kernel_rfl) rfl (by kernel_rfl) fun K hK => ?_
      simp only [List.getElem_toArray, List.getElem_cons_zero, List.getElem_cons_succ]
      go_big_quiet_op
      refine hK _ ?_
      clear hK K
      refine takeQ 5 rfl (by kernel_rfl) rfl (by kernel_rfl) fun K hK => ?_
      simp only [List.getElem_toArray, List.getElem_cons_zero, List.getElem_cons_succ]
      go_big_quiet_op
      refine hK _ ?_
      clear hK K
      refine takeQ 6 rfl (by kernel_rfl) rfl (by kernel_rfl) fun K hK => ?_
      simp only [List.getElem_toArray, List.getElem_cons_zero, List.getElem_cons_succ]
      go_big_quiet_op
      refine hK _ ?_
      clear hK K
      refine stepQ 7 rfl (by kernel_rfl) (by decide) (by kernel_rfl) fun K hK => ?_
      simp only [List.getElem_toArray, List.getElem_cons_zero, List.getElem_cons_succ]
      go_simp
      refine hK _ _ ⟨⟨fun _ => cellB (hb.alloc hb.size _) (j := 0) rfl, trivial⟩, ?_⟩
      clear hK K
      refine stepQ 8 rfl (by kernel_rfl) (by decide) (by kernel_rfl) fun K hK => ?_
      simp only [List.getElem_toArray, List.getElem_cons_zero, List.getElem_cons_succ]
      go_simp
      refine hK _ _ ⟨⟨fun _ => cellB (hb.alloc hb.size _) (j := 0) rfl, trivial⟩, ?_⟩
      clear hK K
      refine stepQ 9 rfl (by kernel_rfl) (by decide) (by kernel_rfl) fun K hK => ?_
      simp only [List.getElem_toArray, List.getElem_cons_zero, List.getElem_cons_succ]
      go_simp
      refine hK _ _ ⟨⟨fun _ => cellB (hb.alloc hb.size _) (j := 0) rfl, trivial⟩, ?_⟩
      clear hK K
      refine doneQ (by kernel_rfl) (hKQ.out _ _ ?_)
      clear hKQ KQ
      have g0 : ∀ o, (w1.alloc o).cell? ⟨w.heap.size, 0, none⟩ = _ := fun o => cellB (hb.alloc hb.size o) (j := 0) rfl
      have g1 : ∀ o, (w1.alloc o).cell? ⟨w.heap.size, 1, none⟩ = _ := fun o => cellB (hb.alloc hb.size o) (j := 1) rfl
      have g2 : ∀ o, (w1.alloc o).cell? ⟨w.heap.size, 2, none⟩ = _ := fun o => cellB (hb.alloc hb.size o) (j := 2) rfl
      have g3 : ∀ o, (w1.alloc o).cell? ⟨w.heap.size, 3, none⟩ = _ := fun o => cellB (hb.alloc hb.size o) (j := 3) rfl
      have g4 : ∀ o, (w1.alloc o).cell? ⟨w.heap.size, 4, none⟩ = _ := fun o => cellB (hb.alloc hb.size o) (j := 4) rfl
      have g5 : ∀ o, (w1.alloc o).cell? ⟨w.heap.size, 5, none⟩ = _ := fun o => cellB (hb.alloc hb.size o) (j := 5) rfl
      have g6 : ∀ o, (w1.alloc o).cell? ⟨w.heap.size, 6, none⟩ = _ := fun o => cellB (hb.alloc hb.size o) (j := 6) rfl
      have g7 : ∀ o, (w1.alloc o).cell? ⟨w.heap.size, 7, none⟩ = _ := fun o => cellB (hb.alloc hb.size o) (j := 7) rfl
      have g8 : ∀ o, (w1.alloc o).cell? ⟨w.heap.size, 8, none⟩ = _ := fun o => cellB (hb.alloc hb.size o) (j := 8) rfl
      cases bm
      · go_wp2_with (go_at_call 159; refine (C7.out _).mono ?_; rintro e w2 ⟨rfl, hb2⟩; replace hb2 := (hb.alloc hb.size _).trans (hb2.mono (hb.alloc hb.size _).size))
        go_ret
        exact ⟨rfl, ((Below.refl w.heap.size w).alloc (Nat.le_refl _) _).trans (hb2.mono (by simp))⟩
      · go_wp2_with (first
          | (go_at_call 159; refine (C7.out _).mono ?_; rintro e w2 ⟨rfl, hb2⟩; have f2 := cellB (w := w1) hb2 (j := 2) rfl; replace hb2 := (hb.alloc hb.size _).trans (hb2.mono (hb.alloc hb.size _).size)
             have g0 : w2.cell? ⟨w.heap.size, 0, none⟩ = _ := cellB hb2 (j := 0) rfl
             have g1 : w2.cell? ⟨w.heap.size, 1, none⟩ = _ := cellB hb2 (j := 1) rfl
             have g2 : w2.cell? ⟨w.heap.size, 2, none⟩ = _ := cellB hb2 (j := 2) rfl
             have g3 : w2.cell? ⟨w.heap.size, 3, none⟩ = _ := cellB hb2 (j := 3) rfl
             have g4 : w2.cell? ⟨w.heap.size, 4, none⟩ = _ := cellB hb2 (j := 4) rfl
             have g5 : w2.cell? ⟨w.heap.size, 5, none⟩ = _ := cellB hb2 (j := 5) rfl
             have g6 : w2.cell? ⟨w.heap.size, 6, none⟩ = _ := cellB hb2 (j := 6) rfl
             have g7 : w2.cell? ⟨w.heap.size, 7, none⟩ = _ := cellB hb2 (j := 7) rfl
             have g8 : w2.cell? ⟨w.heap.size, 8, none⟩ = _ := cellB hb2 (j := 8) rfl
            )
          | (go_at_call 160; refine (C8.out _).mono ?_; rintro e w3 ⟨rfl, hb3⟩; replace hb3 := hb2.trans (hb3.mono hb2.size)
             have g0 : ∀ o, (w3.alloc o).cell? ⟨w.heap.size, 0, none⟩ = _ := fun o => cellB (hb3.alloc hb3.size o) (j := 0) rfl
             have g1 : ∀ o, (w3.alloc o).cell? ⟨w.heap.size, 1, none⟩ = _ := fun o => cellB (hb3.alloc hb3.size o) (j := 1) rfl
             have g2 : ∀ o, (w3.alloc o).cell? ⟨w.heap.size, 2, none⟩ = _ := fun o => cellB (hb3.alloc hb3.size o) (j := 2) rfl
             have g3 : ∀ o, (w3.alloc o).cell? ⟨w.heap.size, 3, none⟩ = _ := fun o => cellB (hb3.alloc hb3.size o) (j := 3) rfl
             have g4 : ∀ o, (w3.alloc o).cell? ⟨w.heap.size, 4, none⟩ = _ := fun o => cellB (hb3.alloc hb3.size o) (j := 4) rfl
             have g5 : ∀ o, (w3.alloc o).cell? ⟨w.heap.size, 5, none⟩ = _ := fun o => cellB (hb3.alloc hb3.size o) (j := 5) rfl
             have g6 : ∀ o, (w3.alloc o).cell? ⟨w.heap.size, 6, none⟩ = _ := fun o => cellB (hb3.alloc hb3.size o) (j := 6) rfl
             have g7 : ∀ o, (w3.alloc o).cell? ⟨w.heap.size, 7, none⟩ = _ := fun o => cellB (hb3.alloc hb3.size o) (j := 7) rfl
             have g8 : ∀ o, (w3.alloc o).cell? ⟨w.heap.size, 8, none⟩ = _ := fun o => cellB (hb3.alloc hb3.size o) (j := 8) rfl
            ))
        go_ret
        exact ⟨rfl, (((Below.refl w.heap.size w).alloc (Nat.le_refl _) _).trans (hb3.mono (by simp))).alloc (by have := hb3.size; simp at this; omega) _⟩
    · try simp only [List.getElem_toArray, List.getElem_cons_zero, List.getElem_cons_succ]
      go_simp
      refine hK _ _ ⟨⟨fun _ => cellB (hb.alloc hb.size _) (j := 0) rfl, trivial⟩, ?_⟩
      clear hK K
      refine stepQ 3 rfl (by kernel_rfl) (by decide) (by kernel_rfl) fun K hK => ?_
      simp only [List.getElem_toArray, List.getElem_cons_zero, List.getElem_cons_succ]
      go_simp
      refine hK _ _ ⟨⟨fun _ => cellB (hb.alloc hb.size _) (j := 0) rfl, trivial⟩, ?_⟩
      clear hK K
      refine takeQ 4 rfl (by kernel_rfl) rfl (by kernel_rfl) fun K hK => ?_
      simp only [List.getElem_toArray, List.getElem_cons_zero, List.getElem_cons_succ]
      go_big_quiet_op
      refine hK _ ?_
      clear hK K
      refine takeQ 5 rfl (by kernel_rfl) rfl (by kernel_rfl) fun K hK => ?_
      simp only [List.getElem_toArray, List.getElem_cons_zero, List.getElem_cons_succ]
      go_big_quiet_op
      refine hK _ ?_
      clear hK K
      refine takeQ 6 rfl (by kernel_rfl) rfl (by kernel_rfl) fun K hK => ?_
      simp only [List.getElem_toArray, List.getElem_cons_zero, List.getElem_cons_succ]
      go_big_quiet_op
      refine hK _ ?_
      clear hK K
      refine stepQ 8 rfl (by kernel_rfl) (by decide) (by kernel_rfl) fun K hK => ?_
      simp only [List.getElem_toArray, List.getElem_cons_zero, List.getElem_cons_succ]
      go_simp
      refine hK _ _ ⟨⟨fun _ => cellB (hb.alloc hb.size _) (j := 0) rfl, trivial⟩, ?_⟩
      clear hK K
      refine stepQ 9 rfl (by kernel_rfl) (by decide) (by kernel_rfl) fun K hK => ?_
      simp only [List.getElem_toArray, List.getElem_cons_zero, List.getElem_cons_succ]
      go_simp
      refine hK _ _ ⟨⟨fun _ => cellB (hb.alloc hb.size _) (j := 0) rfl, trivial⟩, ?_⟩
      clear hK K
      refine doneQ (by kernel_rfl) (hKQ.out _ _ ?_)
      clear hKQ KQ
      have g0 : ∀ o, (w1.alloc o).cell? ⟨w.heap.size, 0, none⟩ = _ := fun o => cellB (hb.alloc hb.size o) (j := 0) rfl
      have g1 : ∀ o, (w1.alloc o).cell? ⟨w.heap.size, 1, none⟩ = _ := fun o => cellB (hb.alloc hb.size o) (j := 1) rfl
      have g2 : ∀ o, (w1.alloc o).cell? ⟨w.heap.size, 2, none⟩ = _ := fun o => cellB (hb.alloc hb.size o) (j := 2) rfl
      have g3 : ∀ o, (w1.alloc o).cell? ⟨w.heap.size, 3, none⟩ = _ := fun o => cellB (hb.alloc hb.size o) (j := 3) rfl
      have g4 : ∀ o, (w1.alloc o).cell? ⟨w.heap.size, 4, none⟩ = _ := fun o => cellB (hb.alloc hb.size o) (j := 4) rfl
      have g5 : ∀ o, (w1.alloc o).cell? ⟨w.heap.size, 5, none⟩ = _ := fun o => cellB (hb.alloc hb.size o) (j := 5) rfl
      have g6 : ∀ o, (w1.alloc o).cell? ⟨w.heap.size, 6, none⟩ = _ := fun o => cellB (hb.alloc hb.size o) (j := 6) rfl
      have g7 : ∀ o, (w1.alloc o).cell? ⟨w.heap.size, 7, none⟩ = _ := fun o => cellB (hb.alloc hb.size o) (j := 7) rfl
      have g8 : ∀ o, (w1.alloc o).cell? ⟨w.heap.size, 8, none⟩ = _ := fun o => cellB (hb.alloc hb.size o) (j := 8) rfl
      cases bm
      · go_wp2_with (go_at_call 159; refine (C7.out _).mono ?_; rintro e w2 ⟨rfl, hb2⟩; replace hb2 := (hb.alloc hb.size _).trans (hb2.mono (hb.alloc hb.size _).size))
        go_ret
        exact ⟨rfl, ((Below.refl w.heap.size w).alloc (Nat.le_refl _) _).trans (hb2.mono (by simp))⟩
      · go_wp2_with (first
          | (go_at_call 159; refine (C7.out _).mono ?_; rintro e w2 ⟨rfl, hb2⟩; have f2 := cellB (w := w1) hb2 (j := 2) rfl; replace hb2 := (hb.alloc hb.size _).trans (hb2.mono (hb.alloc hb.size _).size)
             have g0 : w2.cell? ⟨w.heap.size, 0, none⟩ = _ := cellB hb2 (j := 0) rfl
             have g1 : w2.cell? ⟨w.heap.size, 1, none⟩ = _ := cellB hb2 (j := 1) rfl
             have g2 : w2.cell? ⟨w.heap.size, 2, none⟩ = _ := cellB hb2 (j := 2) rfl
             have g3 : w2.cell? ⟨w.heap.size, 3, none⟩ = _ := cellB hb2 (j := 3) rfl
             have g4 : w2.cell? ⟨w.heap.size, 4, none⟩ = _ := cellB hb2 (j := 4) rfl
             have g5 : w2.cell? ⟨w.heap.size, 5, none⟩ = _ := cellB hb2 (j := 5) rfl
             have g6 : w2.cell? ⟨w.heap.size, 6, none⟩ = _ := cellB hb2 (j := 6) rfl
             have g7 : w2.cell? ⟨w.heap.size, 7, none⟩ = _ := cellB hb2 (j := 7) rfl
             have g8 : w2.cell? ⟨w.heap.size, 8, none⟩ = _ := cellB hb2 (j := 8) rfl
            )
          | (go_at_call 160; refine (C8.out _).mono ?_; rintro e w3 ⟨rfl, hb3⟩; replace hb3 := hb2.trans (hb3.mono hb2.size)
             have g0 : ∀ o, (w3.alloc o).cell? ⟨w.heap.size, 0, none⟩ = _ := fun o => cellB (hb3.alloc hb3.size o) (j := 0) rfl
             have g1 : ∀ o, (w3.alloc o).cell? ⟨w.heap.size, 1, none⟩ = _ := fun o => cellB (hb3.alloc hb3.size o) (j := 1) rfl
             have g2 : ∀ o, (w3.alloc o).cell? ⟨w.heap.size, 2, none⟩ = _ := fun o => cellB (hb3.alloc hb3.size o) (j := 2) rfl
             have g3 : ∀ o, (w3.alloc o).cell? ⟨w.heap.size, 3, none⟩ = _ := fun o => cellB (hb3.alloc hb3.size o) (j := 3) rfl
             have g4 : ∀ o, (w3.alloc o).cell? ⟨w.heap.size, 4, none⟩ = _ := fun o => cellB (hb3.alloc hb3.size o) (j := 4) rfl
             have g5 : ∀ o, (w3.alloc o).cell? ⟨w.heap.size, 5, none⟩ = _ := fun o => cellB (hb3.alloc hb3.size o) (j := 5) rfl
             have g6 : ∀ o, (w3.alloc o).cell? ⟨w.heap.size, 6, none⟩ = _ := fun o => cellB (hb3.alloc hb3.size o) (j := 6) rfl
             have g7 : ∀ o, (w3.alloc o).cell? ⟨w.heap.size, 7, none⟩ = _ := fun o => cellB (hb3.alloc hb3.size o) (j := 7) rfl
             have g8 : ∀ o, (w3.alloc o).cell? ⟨w.heap.size, 8, none⟩ = _ := fun o => cellB (hb3.alloc hb3.size o) (j := 8) rfl
            ))
        go_ret
        exact ⟨rfl, (((Below.refl w.heap.size w).alloc (Nat.le_refl _) _).trans (hb3.mono (by simp))).alloc (by have := hb3.size; simp at this; omega) _⟩
  · try simp only [List.getElem_toArray, List.getElem_cons_zero, List.getElem_cons_succ]
    go_simp
    refine hK _ _ ⟨⟨fun _ => by go_simp, trivial⟩, ?_⟩
    clear hK K
    refine stepQ 0 rfl (by kernel_rfl) (by decide) (by kernel_rfl) fun K hK => ?_
    simp only [List.getElem_toArray, List.getElem_cons_zero, List.getElem_cons_succ]
    go_simp
    refine (CK.out _).mono ?_
    rintro e w1 ⟨rfl, hm, hb⟩
    replace hb := undrew hb
    have hbr := below_pop hb
    have k0 := cellB hb (j := 0) rfl
    have k1 := cellB hb (j := 1) rfl
    have k2 := cellB hb (j := 2) rfl
    have k3 := cellB hb (j := 3) rfl
    have k4 := cellB hb (j := 4) rfl
    replace hm : w1.heap[w.heap.size + 2]? = some (.map kindsE 5) := by simpa using hm
    have HL := run_lookup_at (P := Tryz.prog) 189 30 187 .i64 Tryz.underlying189 Tryz.underlying30 _ _ kindsE 5 hm 3 _ 2 rfl true
    simp only [kindV] at HL
    refine hK _ _ ⟨⟨fun _ => cellB hbr (j := 0) rfl, trivial⟩, ?_⟩
    clear hK K
    refine stepQ 3 rfl (by kernel_rfl) (by decide) (by kernel_rfl) fun K hK => ?_
    simp only [List.getElem_toArray, List.getElem_cons_zero, List.getElem_cons_succ]
    go_simp
    refine hK _ _ ⟨⟨fun _ => cellB hbr (j := 0) rfl, trivial⟩, ?_⟩
    clear hK K
    refine takeQ 4 rfl (by kernel_rfl) rfl (by kernel_rfl) fun K hK => ?_
    simp only [List.getElem_toArray, List.getElem_cons_zero, List.getElem_cons_succ]
    go_big_quiet_op
    refine hK _ ?_
    clear hK K
    refine takeQ 5 rfl (by kernel_rfl) rfl (by kernel_rfl) fun K hK => ?_
    simp only [List.getElem_toArray, List.getElem_cons_zero, List.getElem_cons_succ]
    go_big_quiet_op
    refine hK _ ?_
    clear hK K
    refine takeQ 6 rfl (by kernel_rfl) rfl (by kernel_rfl) fun K hK => ?_
    simp only [List.getElem_toArray, List.getElem_cons_zero, List.getElem_cons_succ]
    go_big_quiet_op
    refine hK _ ?_
    clear hK K
    refine stepQ 8 rfl (by kernel_rfl) (by decide) (by kernel_rfl) fun K hK => ?_
    simp only [List.getElem_toArray, List.getElem_cons_zero, List.getElem_cons_succ]
    have z0 := frozenB hb 0
    have z1 := frozenB hb 1
    have z2 := frozenB hb 2
    have z3 := frozenB hb 3
    have z4 := frozenB hb 4
    simp only [World.size_alloc] at k0 k1 k2 k3 k4 z0 z1 z2 z3 z4
    go_simp
    have hbs := fun v0 v1 v2 v3 v4 => (((((hbr.setCell (p := ⟨w.heap.size + 1, 0, none⟩) (by simp) v0).setCell (p := ⟨w.heap.size + 1, 1, none⟩) (by simp) v1).setCell (p := ⟨w.heap.size + 1, 2, none⟩) (by simp) v2).setCell (p := ⟨w.heap.size + 1, 3, none⟩) (by simp) v3).setCell (p := ⟨w.heap.size + 1, 4, none⟩) (by simp) v4)
    refine hK _ _ ⟨⟨fun _ => cellB (hbs _ _ _ _ _) (j := 0) rfl, trivial⟩, ?_⟩
    clear hK K
    refine atR_gen (fun w' => Below (w.alloc (.cells #[.int .i64 3, .string ⟨client.toArray⟩, .int .i64 seq, .int .i64 id, .string ⟨topic.toArray⟩, .string ⟨body.toArray⟩, .int .i64 qos, .bool retain, .int .i64 stage] 33)).heap.size (w.alloc (.cells #[.int .i64 3, .string ⟨client.toArray⟩, .int .i64 seq, .int .i64 id, .string ⟨topic.toArray⟩, .string ⟨body.toArray⟩, .int .i64 qos, .bool retain, .int .i64 stage] 33)) w' ∧ w'.cell? ⟨w.heap.size + 1, 1, none⟩ = some (.func (.func 159) #[] #[]) ∧ w'.cell? ⟨w.heap.size + 1, 2, none⟩ = some (.func (.func 160) #[] #[]) ∧ w.heap.size + 1 < w'.heap.size) ⟨hbs _ _ _ _ _, by go_simp, by go_simp, by have := hb.size; simp at this ⊢; omega⟩ fun w2 ⟨hb, f1, f2, hlt⟩ => ?_
    refine stepQ 9 rfl (by kernel_rfl) (by decide) (by kernel_rfl) fun K hK => ?_
    simp only [List.getElem_toArray, List.getElem_cons_zero, List.getElem_cons_succ]
    go_simp
    refine hK _ _ ⟨⟨fun _ => cellB hb (j := 0) rfl, trivial⟩, ?_⟩
    clear hK K
    refine doneQ (by kernel_rfl) (hKQ.out _ _ ?_)
    clear hKQ KQ
    have g0 : w2.cell? ⟨w.heap.size, 0, none⟩ = _ := cellB hb (j := 0) rfl
    have g1 : w2.cell? ⟨w.heap.size, 1, none⟩ = _ := cellB hb (j := 1) rfl
    have g2 : w2.cell? ⟨w.heap.size, 2, none⟩ = _ := cellB hb (j := 2) rfl
    have g3 : w2.cell? ⟨w.heap.size, 3, none⟩ = _ := cellB hb (j := 3) rfl
    have g4 : w2.cell? ⟨w.heap.size, 4, none⟩ = _ := cellB hb (j := 4) rfl
    have g5 : w2.cell? ⟨w.heap.size, 5, none⟩ = _ := cellB hb (j := 5) rfl
    have g6 : w2.cell? ⟨w.heap.size, 6, none⟩ = _ := cellB hb (j := 6) rfl
    have g7 : w2.cell? ⟨w.heap.size, 7, none⟩ = _ := cellB hb (j := 7) rfl
    have g8 : w2.cell? ⟨w.heap.size, 8, none⟩ = _ := cellB hb (j := 8) rfl
    cases bm
    · go_wp2_with (go_at_call 159; refine (C7.out _).mono ?_; rintro e w3 ⟨rfl, hb2⟩; replace hb2 := hb.trans (hb2.mono hb.size))
      go_ret
      exact ⟨rfl, below_pop hb2⟩
    · go_wp2_with (first
        | (go_at_call 159; refine (C7.out _).mono ?_; rintro e w3 ⟨rfl, hb3⟩; have f3 := (hb3.cell (p := ⟨w.heap.size + 1, 2, none⟩) hlt).trans f2; replace hb3 := hb.trans (hb3.mono hb.size)
           have g0 : w3.cell? ⟨w.heap.size, 0, none⟩ = _ := cellB hb3 (j := 0) rfl
           have g1 : w3.cell? ⟨w.heap.size, 1, none⟩ = _ := cellB hb3 (j := 1) rfl
           have g2 : w3.cell? ⟨w.heap.size, 2, none⟩ = _ := cellB hb3 (j := 2) rfl
           have g3 : w3.cell? ⟨w.heap.size, 3, none⟩ = _ := cellB hb3 (j := 3) rfl
           have g4 : w3.cell? ⟨w.heap.size, 4, none⟩ = _ := cellB hb3 (j := 4) rfl
           have g5 : w3.cell? ⟨w.heap.size, 5, none⟩ = _ := cellB hb3 (j := 5) rfl
           have g6 : w3.cell? ⟨w.heap.size, 6, none⟩ = _ := cellB hb3 (j := 6) rfl
           have g7 : w3.cell? ⟨w.heap.size, 7, none⟩ = _ := cellB hb3 (j := 7) rfl
           have g8 : w3.cell? ⟨w.heap.size, 8, none⟩ = _ := cellB hb3 (j := 8) rfl
          )
        | (go_at_call 160; refine (C8.out _).mono ?_; rintro e w4 ⟨rfl, hb4⟩; replace hb4 := hb3.trans (hb4.mono hb3.size)
           have g0 : ∀ o, (w4.alloc o).cell? ⟨w.heap.size, 0, none⟩ = _ := fun o => cellB (hb4.alloc hb4.size o) (j := 0) rfl
           have g1 : ∀ o, (w4.alloc o).cell? ⟨w.heap.size, 1, none⟩ = _ := fun o => cellB (hb4.alloc hb4.size o) (j := 1) rfl
           have g2 : ∀ o, (w4.alloc o).cell? ⟨w.heap.size, 2, none⟩ = _ := fun o => cellB (hb4.alloc hb4.size o) (j := 2) rfl
           have g3 : ∀ o, (w4.alloc o).cell? ⟨w.heap.size, 3, none⟩ = _ := fun o => cellB (hb4.alloc hb4.size o) (j := 3) rfl
           have g4 : ∀ o, (w4.alloc o).cell? ⟨w.heap.size, 4, none⟩ = _ := fun o => cellB (hb4.alloc hb4.size o) (j := 4) rfl
           have g5 : ∀ o, (w4.alloc o).cell? ⟨w.heap.size, 5, none⟩ = _ := fun o => cellB (hb4.alloc hb4.size o) (j := 5) rfl
           have g6 : ∀ o, (w4.alloc o).cell? ⟨w.heap.size, 6, none⟩ = _ := fun o => cellB (hb4.alloc hb4.size o) (j := 6) rfl
           have g7 : ∀ o, (w4.alloc o).cell? ⟨w.heap.size, 7, none⟩ = _ := fun o => cellB (hb4.alloc hb4.size o) (j := 7) rfl
           have g8 : ∀ o, (w4.alloc o).cell? ⟨w.heap.size, 8, none⟩ = _ := fun o => cellB (hb4.alloc hb4.size o) (j := 8) rfl
          ))
      go_ret
      exact ⟨rfl, ((below_pop hb4).alloc (by have := (below_pop hb4).size; omega) _)⟩

theorem rec_Check_good (r : RowV) (w : World) (hkd : r.kind = 3) (hm : putMay r = true) (hs : stageOK r) (hc : r.client.length ≤ 9223372036854775807) (ht : r.topic.length ≤ 1000000) :
    Calls Tryz.prog 53 #[.agg r.vals] w fun e w' => e = .returned (.int .i64 0) ∧ Below w.heap.size w w' := by
  have hA := anyOK r.topic (by omega)
  rcases hs with ⟨h1, h2⟩ | hs
  · have := rec_Check_put r w hkd h1 h2 hc (by omega) hA
    rwa [if_pos hm] at this
  · exact rec_Check_out r w hkd true fun w => kinds7_good r w hs hm hc (by omega) hA
end Go.Proofs.YtoinabapaeebfaaGreatDoor
namespace Go.Proofs.YtoinabapaeebfaaGreatDoor
open Go.RowKit Go.Shelf

set_option maxRecDepth 100000 in
set_option maxHeartbeats 400000 in
theorem r19_number (z : Int) (w : World) : Calls Tryz.prog 105 #[.int .i64 z] w fun e w' => e = .returned (.bool (decide (0 ≤ z) && decide (z ≤ 4611686018427387904))) ∧ w = w' := by
  by_cases h : 0 ≤ z
  · go_enter Tryz.func105, Tryz.ntmps105
    go_wp2
    go_ret
    simp [h]
  · have d : decide (0 ≤ z) = false := decide_eq_false h
    go_enter Tryz.func105, Tryz.ntmps105
    go_wp2
    go_ret
    simp [d]

set_option maxRecDepth 100000 in
set_option maxHeartbeats 400000 in
theorem r19_client (s : List UInt8) (w : World) (hs : s.length ≤ 1000000) :
    Calls Tryz.prog 104 #[.string ⟨s.toArray⟩] w fun e w' => e = .returned (.bool (clientR s)) ∧ Below w.heap.size w w' := by
  have hsz : ByteArray.size ⟨s.toArray⟩ = s.length := by simp [ByteArray.size]
  have fin : ∀ b : Bool, clientR s = b → Ending.returned (.bool b) = .returned (.bool (clientR s)) := fun b h => by rw [h]
  have HF := hid fin
  clear fin
  by_cases h1 : s.length < 1
  · have d1 : decide ((s.length : Int) < 1) = true := decide_eq_true (by omega)
    have HB := hid (show clientR s = false by
      have : s = [] := List.eq_nil_of_length_eq_zero (by omega)
      subst this; rfl)
    go_enter Tryz.func104, Tryz.ntmps104
    go_wp2
    go_ret
    exact ⟨HF.out _ HB.out, Below.refl _ _⟩
  have e1 : s.isEmpty = false := by cases s <;> simp at h1 ⊢
  have d1 : decide ((s.length : Int) < 1) = false := decide_eq_false (by omega)
  by_cases h2 : s.length ≤ 23
  · have d2 : decide ((23 : Int) < (s.length : Int)) = false := decide_eq_false (by omega)
    have CR := hid (ref_Runes s w hs)
    have HB := hid (show clientR s = decide (wrongU s = -1) by unfold clientR; rw [e1]; simp [h2])
    go_enter Tryz.func104, Tryz.ntmps104
    go_wp2_with fail
    refine CR.out.mono ?_
    rintro e w1 ⟨hb, ⟨hw, v, rfl, -⟩ | ⟨hw, rfl⟩⟩
    · have hb := hid hb
      go_wp2
      go_ret
      exact ⟨HF.out _ (by rw [HB.out, hw]; rfl), hb.out⟩
    · have dw : decide (wrongU s < 0) = false := decide_eq_false (by omega)
      have hb := hid hb
      go_wp2
      go_ret
      exact ⟨HF.out _ (by rw [HB.out]; simp; omega), hb.out⟩
  · have d2 : decide ((23 : Int) < (s.length : Int)) = true := decide_eq_true (by omega)
    have HB := hid (show clientR s = false by unfold clientR; rw [e1]; simp [h2])
    go_enter Tryz.func104, Tryz.ntmps104
    go_wp2
    go_ret
    exact ⟨HF.out _ HB.out, Below.refl _ _⟩

set_option maxRecDepth 100000 in
set_option maxHeartbeats 400000 in
theorem r13_said (s : List UInt8) (w : World) (hs : s.length ≤ 1000000) :
    Calls Tryz.prog 66 #[.string ⟨s.toArray⟩] w fun e w' => e = .returned (.bool (saidR s)) ∧ Below w.heap.size w w' := by
  have hsz : ByteArray.size ⟨s.toArray⟩ = s.length := by simp [ByteArray.size]
  have fin : ∀ b : Bool, saidR s = b → Ending.returned (.bool b) = .returned (.bool (saidR s)) := fun b h => by rw [h]
  have HF := hid fin
  clear fin
  by_cases h1 : s.length < 1
  · have d1 : decide ((s.length : Int) < 1) = true := decide_eq_true (by omega)
    have HB := hid (show saidR s = false by
      have : s = [] := List.eq_nil_of_length_eq_zero (by omega)
      subst this; rfl)
    go_enter Tryz.func66, Tryz.ntmps66
    go_wp2
    go_ret
    exact ⟨HF.out _ HB.out, Below.refl _ _⟩
  have e1 : s.isEmpty = false := by cases s <;> simp at h1 ⊢
  have d1 : decide ((s.length : Int) < 1) = false := decide_eq_false (by omega)
  by_cases h2 : s.length ≤ 200
  · have d2 : decide ((200 : Int) < (s.length : Int)) = false := decide_eq_false (by omega)
    have CR := hid (ref_Runes s w hs)
    have HB := hid (show saidR s = decide (wrongU s = -1) by unfold saidR; rw [e1]; simp [h2])
    go_enter Tryz.func66, Tryz.ntmps66
    go_wp2_with fail
    refine CR.out.mono ?_
    rintro e w1 ⟨hb, ⟨hw, v, rfl, -⟩ | ⟨hw, rfl⟩⟩
    · have hb := hid hb
      go_wp2
      go_ret
      exact ⟨HF.out _ (by rw [HB.out, hw]; rfl), hb.out⟩
    · have dw : decide (wrongU s < 0) = false := decide_eq_false (by omega)
      have hb := hid hb
      go_wp2
      go_ret
      exact ⟨HF.out _ (by rw [HB.out]; simp; omega), hb.out⟩
  · have d2 : decide ((200 : Int) < (s.length : Int)) = true := decide_eq_true (by omega)
    have HB := hid (show saidR s = false by unfold saidR; rw [e1]; simp [h2])
    go_enter Tryz.func66, Tryz.ntmps66
    go_wp2
    go_ret
    exact ⟨HF.out _ HB.out, Below.refl _ _⟩

/-- How many of + and # a text has. -/
def signsR (s : List UInt8) : Nat := (s.filter fun b => b == 43 || b == 35).length
theorem signs_take (s : List UInt8) (k : Nat) (b : UInt8) (h : s[k]? = some b) : signsR (s.take (k + 1)) = signsR (s.take k) + (if b == 43 || b == 35 then 1 else 0) := by
  unfold signsR
  rw [List.take_add_one, h, Option.toList_some, List.filter_append, List.length_append]
  congr 1
  by_cases hb : (b == 43 || b == 35) = true <;> simp [hb]
theorem signs_any (s : List UInt8) : decide (signsR s = 0) = !anyR s := by
  unfold anyR Lib.containsAny
  induction s with
  | nil => rfl
  | cons b s ih =>
    have hge := Lib.indexAny_ge [43, 35] s
    have hcon : ([43, 35] : List UInt8).contains b = (b == 43 || b == 35) := by simp [List.contains_cons, beq_iff_eq]; rfl
    unfold Lib.indexAny
    rw [hcon]
    have hs : signsR (b :: s) = (if (b == 43 || b == 35) = true then 1 else 0) + signsR s := by
      unfold signsR
      rw [List.filter_cons]
      split <;> simp <;> omega
    rw [hs]
    by_cases hb : (b == 43 || b == 35) = true
    · rw [if_pos hb, if_pos hb]
      simp
    · rw [if_neg hb, if_neg hb, Nat.zero_add, ih]
      by_cases h0 : Lib.indexAny s [43, 35] = -1
      · simp [h0]
      · rw [if_neg (by simpa using h0)]
        have h1 : 0 ≤ Lib.indexAny s [43, 35] := by omega
        have h2 : 0 ≤ Lib.indexAny s [43, 35] + 1 := by omega
        simp [h1, h2]

set_option maxRecDepth 100000 in
set_option maxHeartbeats 1000000 in
theorem r13_signs (s : List UInt8) (w : World) (hs : s.length ≤ 1000000) :
    Calls Tryz.prog 68 #[.string ⟨s.toArray⟩] w fun e w' => e = .returned (.int .i64 (signsR s)) ∧ w = w' := by
  have hsz : ByteArray.size ⟨s.toArray⟩ = s.length := by simp [ByteArray.size]
  go_enter Tryz.func68, Tryz.ntmps68
  go_wp2
  go_loopw [3, 4] (fun n i wr => ∃ k : Nat, n = .int .i64 (signsR (s.take k) : Nat) ∧ i = .int .i64 k ∧ k ≤ s.length ∧ w = wr) (fun _ i _ => s.length - (intOf i).toNat)
  case atStart => exact ⟨0, rfl, rfl, Nat.zero_le _, rfl⟩
  case round =>
    obtain ⟨k, rfl, rfl, hk, rfl⟩ := hrel
    rcases Nat.lt_or_ge k s.length with hlt | hge
    · have dk : decide ((k : Int) < (s.length : Int)) = true := decide_eq_true (by omega)
      obtain ⟨b, hb⟩ : ∃ b, s[k]? = some b := ⟨_, List.getElem?_eq_getElem hlt⟩
      have hix : ∀ h, (⟨s.toArray⟩ : ByteArray)[k]'h = b := fun h => by
        have : s[k]'hlt = b := (List.getElem?_eq_some_iff.1 hb).2
        exact this
      have hst := hid (signs_take s k b hb)
      have hle : signsR (s.take k) ≤ k := by
        unfold signsR
        have := List.length_filter_le (fun b => b == 43 || b == 35) (s.take k)
        rw [List.length_take] at this
        omega
      obtain ⟨m, hm⟩ : ∃ m : Nat, signsR (s.take k) = m := ⟨_, rfl⟩
      rw [hm] at hle
      by_cases h1 : b = 43
      · have e1 : (((b.toNat : Nat) : Int) == 43) = true := by rw [h1]; rfl
        have hst := hid (show signsR (s.take (k + 1)) = m + 1 by rw [hst.out, hm, h1]; rfl)
        rw [hm]
        clear hm
        go_wp2
        go_roundw
        case rel => exact ⟨k + 1, by rw [hst.out]; go_num, by go_num, hlt, trivial⟩
        case measure => simp [intOf]; omega
      · have e1 : (((b.toNat : Nat) : Int) == 43) = false := by
          rw [beq_eq_false_iff_ne]
          intro h
          exact h1 (UInt8.toNat_inj.1 (show b.toNat = 43 by omega))
        by_cases h2 : b = 35
        · have e2 : (((b.toNat : Nat) : Int) == 35) = true := by rw [h2]; rfl
          have hst := hid (show signsR (s.take (k + 1)) = m + 1 by rw [hst.out, hm, h2]; rfl)
          rw [hm]
          clear hm
          go_wp2
          go_roundw
          case rel => exact ⟨k + 1, by rw [hst.out]; go_num, by go_num, hlt, trivial⟩
          case measure => simp [intOf]; omega
        · have e2 : (((b.toNat : Nat) : Int) == 35) = false := by
            rw [beq_eq_false_iff_ne]
            intro h
            exact h2 (UInt8.toNat_inj.1 (show b.toNat = 35 by omega))
          have hst := hid (show signsR (s.take (k + 1)) = m by rw [hst.out, hm]; simp [h1, h2])
          rw [hm]
          clear hm
          go_wp2
          go_roundw
          case rel => exact ⟨k + 1, by rw [hst.out], by go_num, hlt, trivial⟩
          case measure => simp [intOf]; omega
    · obtain rfl : k = s.length := by omega
      have dk : decide ((s.length : Int) < (s.length : Int)) = false := by simp
      go_wp2
      go_ret
      exact ⟨by simp, rfl⟩

set_option maxRecDepth 100000 in
set_option maxHeartbeats 400000 in
theorem r13_Name (s : List UInt8) (w : World) (hs : s.length ≤ 1000000) :
    Calls Tryz.prog 106 #[.string ⟨s.toArray⟩] w fun e w' => e = .returned (.bool (nameR s)) ∧ Below w.heap.size w w' := by
  have fin : ∀ b : Bool, nameR s = b → Ending.returned (.bool b) = .returned (.bool (nameR s)) := fun b h => by rw [h]
  have HF := hid fin
  clear fin
  have CS := hid (r13_said s w hs)
  have CG := hid fun w => r13_signs s w hs
  have HN := hid (show nameR s = (saidR s && decide (signsR s = 0)) by rw [signs_any]; rfl)
  cases hq : saidR s
  · rw [hq] at CS HN
    clear hq
    go_enter Tryz.func106, Tryz.ntmps106
    go_wp2_with (go_at_call 66; refine CS.out.mono ?_; rintro e w1 ⟨rfl, hb⟩)
    go_ret
    exact ⟨HF.out _ HN.out, hb⟩
  · rw [hq] at CS HN
    clear hq
    have HM := hid (show nameR s = decide (signsR s = 0) by rw [HN.out]; rfl)
    obtain ⟨m, hm⟩ : ∃ m : Nat, signsR s = m := ⟨_, rfl⟩
    rw [hm] at CG HM
    clear hm
    go_enter Tryz.func106, Tryz.ntmps106
    go_wp2_with (first | (go_at_call 66; refine CS.out.mono ?_; rintro e w1 ⟨rfl, hb⟩) | (go_at_call 68; refine (CG.out _).mono ?_; rintro e w2 ⟨rfl, rfl⟩))
    go_ret
    refine ⟨HF.out _ ?_, hb⟩
    rw [HM.out]
    by_cases h : m = 0 <;> simp [h]

/-- May a row be that is an outbox's, or a session's? -/
def rowMay (r : RowV) : Prop := r.kind = 3 ∧ putMay r = true ∧ stageOK r ∨ (∃ c q i, r = ⟨1, c, q, i, [], [], 0, false, 0⟩ ∧ sessMay r = true)
set_option maxRecDepth 100000 in
set_option maxHeartbeats 800000 in
theorem r19_Right_out (r : RowV) (w : World) (hk : r.kind = 3) (hm : putMay r = true) (hs : stageOK r) (hc : r.client.length ≤ 1000000) (ht : r.topic.length ≤ 1000000) :
    Calls Tryz.prog 50 #[.agg r.vals] w fun e w' => e = .returned (.bool true) ∧ Below w.heap.size w w' := by
  obtain ⟨kind, client, seq, id, topic, body, qos, retain, stage⟩ := r
  dsimp only at hk hc ht
  subst hk
  unfold putMay at hm
  simp only [Bool.and_eq_true, decide_eq_true_eq] at hm
  obtain ⟨⟨⟨⟨hbc, hbs⟩, hbn⟩, hbb⟩, hbq⟩ := hm
  have CC := hid fun w => r19_client client w hc
  rw [hbc] at CC
  have CN := hid fun w => r13_Name topic w ht
  rw [hbn] at CN
  have CS := hid (r19_number seq)
  rw [show (decide (0 ≤ seq) && decide (seq ≤ 4611686018427387904)) = true by simp [hbs]] at CS
  have e0 : topic.isEmpty = false := by
    unfold nameR saidR at hbn
    cases topic <;> simp at hbn ⊢
  have hsz : ByteArray.size ⟨body.toArray⟩ = body.length := by simp [ByteArray.size]
  unfold stageOK at hs
  dsimp only at hs
  unfold RowV.vals
  have a1 : decide (0 ≤ qos) = true := decide_eq_true (by omega)
  have a2 : decide (qos ≤ 2) = true := decide_eq_true (by omega)
  have a3 : decide (2000 < (body.length : Int)) = false := decide_eq_false (by omega)
  have a4 : decide (qos < 1) = false := decide_eq_false (by omega)
  have a5 : decide (2 < qos) = false := decide_eq_false (by omega)
  clear hbc hbn hbb hbq hbs hc ht
  rcases hs with ⟨rfl, rfl⟩ | ⟨hi, hst⟩
  case inl =>
    go_enter Tryz.func50, Tryz.ntmps50
    go_wp2_with (first
      | (go_at_call 104; refine (CC.out _).mono ?_; rintro e w1 ⟨rfl, hb⟩; have c2 := cellB hb (j := 2) rfl; have c4 := cellB hb (j := 4) rfl)
      | (go_at_call 106; refine (CN.out _).mono ?_; rintro e w2 ⟨rfl, hb2⟩; replace hb := hb.trans (hb2.mono hb.size); have c5 := cellB hb (j := 5) rfl; have c6 := cellB hb (j := 6) rfl; have c8 := cellB hb (j := 8) rfl; have c3 := cellB hb (j := 3) rfl)
      | (go_at_call 105; refine (CS.out _).mono ?_; rintro e w3 ⟨rfl, rfl⟩))
    go_ret
    exact ⟨rfl, ((Below.refl w.heap.size w).alloc (Nat.le_refl _) _).trans (hb.mono (by simp))⟩
  have i1 : decide (1 ≤ id) = true := decide_eq_true (by omega)
  have i2 : decide (id ≤ 65535) = true := decide_eq_true (by omega)
  clear hi
  rcases hst with rfl | ⟨rfl, rfl⟩
  · skip
    go_enter Tryz.func50, Tryz.ntmps50
    go_wp2_with (first
      | (go_at_call 104; refine (CC.out _).mono ?_; rintro e w1 ⟨rfl, hb⟩; have c2 := cellB hb (j := 2) rfl; have c4 := cellB hb (j := 4) rfl)
      | (go_at_call 106; refine (CN.out _).mono ?_; rintro e w2 ⟨rfl, hb2⟩; replace hb := hb.trans (hb2.mono hb.size); have c5 := cellB hb (j := 5) rfl; have c6 := cellB hb (j := 6) rfl; have c8 := cellB hb (j := 8) rfl; have c3 := cellB hb (j := 3) rfl)
      | (go_at_call 105; refine (CS.out _).mono ?_; rintro e w3 ⟨rfl, rfl⟩))
    go_ret
    exact ⟨rfl, ((Below.refl w.heap.size w).alloc (Nat.le_refl _) _).trans (hb.mono (by simp))⟩
  · skip
    go_enter Tryz.func50, Tryz.ntmps50
    go_wp2_with (first
      | (go_at_call 104; refine (CC.out _).mono ?_; rintro e w1 ⟨rfl, hb⟩; have c2 := cellB hb (j := 2) rfl; have c4 := cellB hb (j := 4) rfl)
      | (go_at_call 106; refine (CN.out _).mono ?_; rintro e w2 ⟨rfl, hb2⟩; replace hb := hb.trans (hb2.mono hb.size); have c5 := cellB hb (j := 5) rfl; have c6 := cellB hb (j := 6) rfl; have c8 := cellB hb (j := 8) rfl; have c3 := cellB hb (j := 3) rfl)
      | (go_at_call 105; refine (CS.out _).mono ?_; rintro e w3 ⟨rfl, rfl⟩))
    go_ret
    exact ⟨rfl, ((Below.refl w.heap.size w).alloc (Nat.le_refl _) _).trans (hb.mono (by simp))⟩
end Go.Proofs.YtoinabapaeebfaaGreatDoor
namespace Go.Proofs.YtoinabapaeebfaaGreatDoor
open Go.RowKit Go.Shelf

/-- Are two rows the same one (kinds 1 to 4)? -/
def isR (a b : RowV) : Bool :=
  if a.kind = b.kind then
    if a.kind = 1 then decide (a.client = b.client) else if a.kind = 2 then decide (a.client = b.client) && decide (a.topic = b.topic) else if a.kind = 3 then decide (a.client = b.client) && decide (a.seq = b.seq) else decide (a.client = b.client) && decide (a.id = b.id)
  else false
def kindOK (r : RowV) : Prop := r.kind = 1 ∨ r.kind = 2 ∨ r.kind = 3 ∨ r.kind = 4

set_option maxRecDepth 100000 in
set_option maxHeartbeats 2000000 in
theorem r19_Is (a b : RowV) (w : World) (ha : kindOK a) :
    Calls Tryz.prog 107 #[.agg a.vals, .agg b.vals] w fun e w' => e = .returned (.bool (isR a b)) ∧ Below w.heap.size w w' := by
  have hbel := hid ((((Below.refl w.heap.size w).alloc (Nat.le_refl _) (.cells a.vals 33)).alloc (by simp) (.cells b.vals 33)))
  obtain ⟨ak, ac, as_, ai, at_, ab, aq, ar, ag⟩ := a
  obtain ⟨bk, bc, bs_, bi, bt, bb, bq, br, bg⟩ := b
  unfold kindOK at ha
  unfold RowV.vals at *
  dsimp only at *
  have hres : ∀ v : Bool, isR ⟨ak, ac, as_, ai, at_, ab, aq, ar, ag⟩ ⟨bk, bc, bs_, bi, bt, bb, bq, br, bg⟩ = v → Ending.returned (.bool v) = .returned (.bool (isR ⟨ak, ac, as_, ai, at_, ab, aq, ar, ag⟩ ⟨bk, bc, bs_, bi, bt, bb, bq, br, bg⟩)) := fun v h => by rw [h]
  have hres := hid hres
  by_cases hk : ak = bk
  · subst hk
    have dk : (ak == ak) = true := by simp
    obtain ⟨c1, hc1⟩ : ∃ c, decide (ac = bc) = c := ⟨_, rfl⟩
    obtain ⟨c2, hc2⟩ : ∃ c, decide (at_ = bt) = c := ⟨_, rfl⟩
    obtain ⟨c3, hc3⟩ : ∃ c, decide (as_ = bs_) = c := ⟨_, rfl⟩
    obtain ⟨c4, hc4⟩ : ∃ c, decide (ai = bi) = c := ⟨_, rfl⟩
    have e1 : (ac == bc) = c1 := by rw [← hc1, Bool.eq_iff_iff]; simp
    have e2 : (at_ == bt) = c2 := by rw [← hc2, Bool.eq_iff_iff]; simp
    have e3 : (as_ == bs_) = c3 := by rw [← hc3, Bool.eq_iff_iff]; simp
    have e4 : (ai == bi) = c4 := by rw [← hc4, Bool.eq_iff_iff]; simp
    have hv : Hid (isR ⟨ak, ac, as_, ai, at_, ab, aq, ar, ag⟩ ⟨ak, bc, bs_, bi, bt, bb, bq, br, bg⟩ = (if ak = 1 then c1 else if ak = 2 then c1 && c2 else if ak = 3 then c1 && c3 else c1 && c4)) := hid (by unfold isR; simp only [if_true, hc1, hc2, hc3, hc4])
    clear hc1 hc2 hc3 hc4
    rcases ha with rfl | rfl | rfl | rfl
    · go_enter Tryz.func107, Tryz.ntmps107
      go_wp2_with fail
      go_ret
      exact ⟨hres.out _ (by rw [hv.out]; rfl), hbel.out⟩
    all_goals
      cases c1 <;>
      · go_enter Tryz.func107, Tryz.ntmps107
        go_wp2_with fail
        go_ret
        exact ⟨hres.out _ (by rw [hv.out]; rfl), hbel.out⟩
  · have dk : (ak == bk) = false := by simpa using hk
    have hv : Hid (isR ⟨ak, ac, as_, ai, at_, ab, aq, ar, ag⟩ ⟨bk, bc, bs_, bi, bt, bb, bq, br, bg⟩ = false) := hid (by unfold isR; simp only [hk, if_false])
    clear ha hk
    go_enter Tryz.func107, Tryz.ntmps107
    go_wp2_with fail
    go_ret
    exact ⟨hres.out _ hv.out, hbel.out⟩

set_option maxRecDepth 100000 in
set_option maxHeartbeats 2000000 in
theorem r20_Find (l : List RowV) (r : RowV) (base : Nat) (a : Option Addr) (n c : Nat) (w : World) (hv : w.ownsRow base 33 9 (.slice a n c) n (l.flatMap RowV.cl)) (hn : l.length = n) (hl : n ≤ 1000000) (hk : ∀ x ∈ l, kindOK x) :
    Calls Tryz.prog 51 #[.slice a n c, .agg r.vals] w fun e w' => e = .returned (.int .i64 (idxOf (fun x => isR x r) l)) ∧ Below w.heap.size w w' := by
  have hV := hid hv
  have hb0 := hid ((Below.refl w.heap.size w).alloc (Nat.le_refl _) (.cells r.vals 33))
  have hB0 := hid (Blk.new w r.vals 33)
  have hk := hid hk
  have hn := hid hn
  have CI := hid fun x W hx => r19_Is x r W hx
  clear hv
  obtain ⟨ak, ac, as_, ai, at_, ab, aq, ar, ag⟩ := r
  unfold RowV.vals at *
  dsimp only at *
  go_enter Tryz.func51, Tryz.ntmps51
  go_wp2_with fail
  go_loopw [5] (fun i wr => ∃ k : Nat, i = .int .i64 k ∧ k ≤ n ∧ Hid (Below w.heap.size w wr) ∧ Hid (Blk wr w.heap.size #[.int .i64 ak, .string ⟨ac.toArray⟩, .int .i64 as_, .int .i64 ai, .string ⟨at_.toArray⟩, .string ⟨ab.toArray⟩, .int .i64 aq, .bool ar, .int .i64 ag] 33) ∧ Hid (∀ j x, j < k → l[j]? = some x → isR x ⟨ak, ac, as_, ai, at_, ab, aq, ar, ag⟩ = false)) (fun i _ => n - (intOf i).toNat)
  case atStart => exact ⟨0, rfl, Nat.zero_le _, hb0, hB0, hid fun j x h => absurd h (by omega)⟩
  case round =>
    obtain ⟨k, rfl, hk1, hbr, hBr, hno⟩ := hrel
    rcases Nat.lt_or_ge k n with hlt | hge
    · have dk : decide ((k : Int) < (n : Int)) = true := decide_eq_true (by omega)
      obtain ⟨x, hx⟩ : ∃ x, l[k]? = some x := ⟨_, List.getElem?_eq_getElem (by have := hn.out; omega)⟩
      have hkx := hk.out x (List.mem_of_getElem? hx)
      obtain ⟨g, hag, -, hrow⟩ := own_range RowV.cl RowV.cllen (l := l) (n := n) hn.out (ownsRow_below hV.out hbr.out) (k := k) (x := x) hx
      subst hag
      have hgl := (hV.out.lt g rfl).2
      have hrow' : wr.drew.rangeAt g (k * 9) x.cl := hrow
      have hBr' : Blk wr.drew w.heap.size #[.int .i64 ak, .string ⟨ac.toArray⟩, .int .i64 as_, .int .i64 ai, .string ⟨at_.toArray⟩, .string ⟨ab.toArray⟩, .int .i64 aq, .bool ar, .int .i64 ag] 33 := hBr.out
      have CX := hid (CI.out x wr.drew hkx)
      obtain ⟨bv, hbv⟩ : ∃ b, isR x ⟨ak, ac, as_, ai, at_, ab, aq, ar, ag⟩ = b := ⟨_, rfl⟩
      rw [hbv] at CX
      have hbv := hid hbv
      have hx := hid hx
      clear hkx
      go_wp2_with fail
      refine regionQ [(1000, fun w' => w'.rangeAt g (k * 9) x.cl), (1000, fun w' => Blk w' w.heap.size #[.int .i64 ak, .string ⟨ac.toArray⟩, .int .i64 as_, .int .i64 ai, .string ⟨at_.toArray⟩, .string ⟨ab.toArray⟩, .int .i64 aq, .bool ar, .int .i64 ag] 33)] (by kernel_rfl) ⟨hrow', hBr', trivial⟩ fun KQ hKQ => ?_
      refine takeQ 0 rfl (by kernel_rfl) rfl (by kernel_rfl) fun K hK => ?_
      simp only [List.getElem_toArray, List.getElem_cons_zero, List.getElem_cons_succ]
      go_big_quiet_op
      refine hK _ ?_
      clear hK K
      refine takeQ 1 rfl (by kernel_rfl) rfl (by kernel_rfl) fun K hK => ?_
      simp only [List.getElem_toArray, List.getElem_cons_zero, List.getElem_cons_succ]
      go_big_quiet_op
      refine hK _ ?_
      clear hK K
      refine takeQ 2 rfl (by kernel_rfl) rfl (by kernel_rfl) fun K hK => ?_
      simp only [List.getElem_toArray, List.getElem_cons_zero, List.getElem_cons_succ]
      go_big_quiet_op
      refine hK _ ?_
      clear hK K
      refine loadQ 3 rfl (by kernel_rfl) (by kernel_rfl) rfl rfl 0 rfl (by kernel_rfl) (.agg (x.cl : List Value).toArray) (fun w' hf => run_loadAt_mid w' _ _ 33 (x.cl : List Value) _ hf Tryz.underlying33 rfl (by kernel_rfl)) ?_
      simp only [Act.put, List.getElem_toArray, List.getElem_cons_zero, List.getElem_cons_succ, List.setIfInBounds_toArray, List.set_cons_zero, List.set_cons_succ]
      refine loadQ 4 rfl (by kernel_rfl) (by kernel_rfl) rfl rfl 1 rfl (by kernel_rfl) _ (fun w' hf => run_load_blk hf 33 Tryz.underlying33 rfl (by kernel_rfl)) ?_
      simp only [Act.put, List.getElem_toArray, List.getElem_cons_zero, List.getElem_cons_succ, List.setIfInBounds_toArray, List.set_cons_zero, List.set_cons_succ]
      refine stepQ 5 rfl (by kernel_rfl) (by decide) (by kernel_rfl) fun K hK => ?_
      simp only [List.getElem_toArray, List.getElem_cons_zero, List.getElem_cons_succ]
      go_simp
      refine CX.out.mono ?_
      rintro e w2 ⟨rfl, hb2⟩
      have hbw := hid (hbr.out.trans ((undrew hb2).mono hbr.out.size))
      refine hK _ _ ⟨⟨fun _ => range_below hrow' (by have := hbr.out.size; simp; omega) hb2, fun _ => hBr'.below hb2, trivial⟩, ?_⟩
      clear hK K
      refine doneQ (by kernel_rfl) (hKQ.out _ _ ?_)
      clear hKQ KQ
      rcases bv with _ | _
      · go_wp2_with fail
        go_roundw
        case rel =>
          refine ⟨k + 1, by go_num, by omega, hbw, hid (hBr'.below hb2), hid fun j y hj hy => ?_⟩
          by_cases hjk : j = k
          · subst hjk
            rw [hx.out] at hy
            cases hy
            exact hbv.out
          · exact hno.out j y (by omega) hy
        case measure => simp [intOf]; omega
      · go_wp2_with fail
        go_ret
        refine ⟨?_, hbw.out⟩
        have hkl := (List.getElem?_eq_some_iff.1 hx.out)
        obtain ⟨h1, h2⟩ := hkl
        rw [idxOf_at _ l k h1 (fun j hj => hno.out j _ hj (List.getElem?_eq_getElem (by omega))) (by rw [h2]; exact hbv.out)]
        rfl
    · obtain rfl : k = n := by omega
      have dk : decide ((k : Int) < (k : Int)) = false := by simp
      go_wp2_with fail
      go_ret
      refine ⟨?_, hbr.out⟩
      rw [idxOf_none _ l (fun y hy => by
        obtain ⟨j, hj⟩ := List.getElem?_of_mem hy
        exact hno.out j y (by have := (List.getElem?_eq_some_iff.1 hj).1; have := hn.out; omega) hj)]
      rfl
end Go.Proofs.YtoinabapaeebfaaGreatDoor
namespace Go.Proofs.YtoinabapaeebfaaGreatDoor
open Go.RowKit Go.Shelf

def eqRow (x y : RowV) : Bool := decide (x.kind = y.kind ∧ x.client = y.client ∧ x.seq = y.seq ∧ x.id = y.id ∧ x.topic = y.topic ∧ x.body = y.body ∧ x.qos = y.qos ∧ x.retain = y.retain ∧ x.stage = y.stage)
theorem eqRow_iff (x y : RowV) : eqRow x y = true ↔ x = y := by
  obtain ⟨ak, ac, as_, ai, at_, ab, aq, ar, ag⟩ := x
  obtain ⟨bk, bc, bs_, bi, bt, bb, bq, br, bg⟩ := y
  simp [eqRow]

set_option maxHeartbeats 1000000 in
theorem run_rows_neq (x y : RowV) (w : World) : (binOp .neq 33 (.agg x.vals) (.agg y.vals)).run Tryz.prog w = .ok (.bool (!eqRow x y)) w := by
  obtain ⟨ak, ac, as_, ai, at_, ab, aq, ar, ag⟩ := x
  obtain ⟨bk, bc, bs_, bi, bt, bb, bq, br, bg⟩ := y
  unfold RowV.vals eqRow
  go_simp
  by_cases h1 : ak = bk
  · by_cases h2 : ac = bc
    · by_cases h3 : as_ = bs_
      · by_cases h4 : ai = bi
        · by_cases h5 : at_ = bt
          · by_cases h6 : ab = bb
            · by_cases h7 : aq = bq
              · by_cases h8 : ar = br
                · by_cases h9 : ag = bg
                  · simp [h1, h2, h3, h4, h5, h6, h7, h8, h9]
                  · simp [h1, h2, h3, h4, h5, h6, h7, h8, h9]
                · simp [h1, h2, h3, h4, h5, h6, h7, h8]
              · simp [h1, h2, h3, h4, h5, h6, h7]
            · simp [h1, h2, h3, h4, h5, h6]
          · simp [h1, h2, h3, h4, h5]
        · simp [h1, h2, h3, h4]
      · simp [h1, h2, h3]
    · simp [h1, h2]
  · simp [h1]

theorem run_rows_guard (x y : RowV) (s1 s2 : Operand) (w : World) : (eqGuard .neq 33 s1 s2 (.agg x.vals) (.agg y.vals)).run Tryz.prog w = .ok () w := by
  obtain ⟨ak, ac, as_, ai, at_, ab, aq, ar, ag⟩ := x
  obtain ⟨bk, bc, bs_, bi, bt, bb, bq, br, bg⟩ := y
  unfold RowV.vals
  go_simp
set_option maxRecDepth 100000 in
set_option maxHeartbeats 2000000 in
theorem r22_SameRows (l1 l2 : List RowV) (b1 b2 : Nat) (a1 a2 : Option Addr) (n1 n2 c1 c2 : Nat) (w : World) (h1 : w.ownsRow b1 33 9 (.slice a1 n1 c1) n1 (l1.flatMap RowV.cl)) (h2 : w.ownsRow b2 33 9 (.slice a2 n2 c2) n2 (l2.flatMap RowV.cl))
    (hn1 : l1.length = n1) (hn2 : l2.length = n2) (hl : n1 ≤ 1000000) :
    Calls Tryz.prog 15 #[.slice a1 n1 c1, .slice a2 n2 c2] w fun e w' => ∃ b, e = .returned (.bool b) ∧ (b = true ↔ l1 = l2) ∧ Below w.heap.size w w' := by
  by_cases hne : n1 = n2
  · subst hne
    have hV1 := hid h1
    have hV2 := hid h2
    have hn1 := hid hn1
    have hn2 := hid hn2
    have dn : ((n1 : Int) == (n1 : Int)) = true := by simp
    clear h1 h2
    go_enter Tryz.func15, Tryz.ntmps15
    go_wp2_with fail
    go_loopw [5] (fun i wr => ∃ k : Nat, i = .int .i64 k ∧ k ≤ n1 ∧ Hid (Below w.heap.size w wr) ∧ Hid (∀ j x y, j < k → l1[j]? = some x → l2[j]? = some y → x = y)) (fun i _ => n1 - (intOf i).toNat)
    case atStart => exact ⟨0, rfl, Nat.zero_le _, hid (Below.refl _ _), hid fun j x y h => absurd h (by omega)⟩
    case round =>
      obtain ⟨k, rfl, hk1, hbr, hall⟩ := hrel
      rcases Nat.lt_or_ge k n1 with hlt | hge
      · have dk : decide ((k : Int) < (n1 : Int)) = true := decide_eq_true (by omega)
        obtain ⟨x, hx⟩ : ∃ x, l1[k]? = some x := ⟨_, List.getElem?_eq_getElem (by have := hn1.out; omega)⟩
        obtain ⟨y, hy⟩ : ∃ y, l2[k]? = some y := ⟨_, List.getElem?_eq_getElem (by have := hn2.out; omega)⟩
        obtain ⟨g1, hag1, -, hrow1⟩ := own_range RowV.cl RowV.cllen (l := l1) (n := n1) hn1.out (ownsRow_below hV1.out hbr.out) (k := k) (x := x) hx
        obtain ⟨g2, hag2, -, hrow2⟩ := own_range RowV.cl RowV.cllen (l := l2) (n := n1) hn2.out (ownsRow_below hV2.out hbr.out) (k := k) (x := y) hy
        subst hag1
        subst hag2
        have hrow1' : wr.drew.rangeAt g1 (k * 9) x.cl := hrow1
        have hrow2' : wr.drew.rangeAt g2 (k * 9) y.cl := hrow2
        have hq := run_rows_neq x y
        have hbw := hid hbr.out.drew
        obtain ⟨bv, hbv⟩ : ∃ b, eqRow x y = b := ⟨_, rfl⟩
        rw [hbv] at hq
        have hx := hid hx
        have hy := hid hy
        have hbv := hid hbv
        obtain ⟨xv, hxv⟩ : ∃ v, (Value.agg x.cl.toArray) = v := ⟨_, rfl⟩
        obtain ⟨yv, hyv⟩ : ∃ v, (Value.agg y.cl.toArray) = v := ⟨_, rfl⟩
        have hq' : ∀ w, (binOp .neq 33 xv yv).run Tryz.prog w = .ok (.bool (!bv)) w := by rw [← hxv, ← hyv]; exact hq
        have hgu : ∀ s1 s2 w, (eqGuard .neq 33 s1 s2 xv yv).run Tryz.prog w = .ok () w := by rw [← hxv, ← hyv]; exact run_rows_guard x y
        clear hq
        go_wp2_with fail
        refine regionQ [(1000, fun w' => w'.rangeAt g1 (k * 9) x.cl), (1000, fun w' => w'.rangeAt g2 (k * 9) y.cl)] (by kernel_rfl) ⟨hrow1', hrow2', trivial⟩ fun KQ hKQ => ?_
        refine takeQ 0 rfl (by kernel_rfl) rfl (by kernel_rfl) fun K hK => ?_
        simp only [List.getElem_toArray, List.getElem_cons_zero, List.getElem_cons_succ]
        go_big_quiet_op
        refine hK _ ?_
        clear hK K
        refine takeQ 1 rfl (by kernel_rfl) rfl (by kernel_rfl) fun K hK => ?_
        simp only [List.getElem_toArray, List.getElem_cons_zero, List.getElem_cons_succ]
        go_big_quiet_op
        refine hK _ ?_
        clear hK K
        refine takeQ 2 rfl (by kernel_rfl) rfl (by kernel_rfl) fun K hK => ?_
        simp only [List.getElem_toArray, List.getElem_cons_zero, List.getElem_cons_succ]
        go_big_quiet_op
        refine hK _ ?_
        clear hK K
        refine loadQ 3 rfl (by kernel_rfl) (by kernel_rfl) rfl rfl 0 rfl (by kernel_rfl) (.agg (x.cl : List Value).toArray) (fun w' hf => run_loadAt_mid w' _ _ 33 (x.cl : List Value) _ hf Tryz.underlying33 rfl (by kernel_rfl)) ?_
        simp only [Act.put, List.getElem_toArray, List.getElem_cons_zero, List.getElem_cons_succ, List.setIfInBounds_toArray, List.set_cons_zero, List.set_cons_succ]
        refine takeQ 4 rfl (by kernel_rfl) rfl (by kernel_rfl) fun K hK => ?_
        simp only [List.getElem_toArray, List.getElem_cons_zero, List.getElem_cons_succ]
        go_big_quiet_op
        refine hK _ ?_
        clear hK K
        refine takeQ 5 rfl (by kernel_rfl) rfl (by kernel_rfl) fun K hK => ?_
        simp only [List.getElem_toArray, List.getElem_cons_zero, List.getElem_cons_succ]
        go_big_quiet_op
        refine hK _ ?_
        clear hK K
        refine takeQ 6 rfl (by kernel_rfl) rfl (by kernel_rfl) fun K hK => ?_
        simp only [List.getElem_toArray, List.getElem_cons_zero, List.getElem_cons_succ]
        go_big_quiet_op
        refine hK _ ?_
        clear hK K
        refine loadQ 7 rfl (by kernel_rfl) (by kernel_rfl) rfl rfl 1 rfl (by kernel_rfl) (.agg (y.cl : List Value).toArray) (fun w' hf => run_loadAt_mid w' _ _ 33 (y.cl : List Value) _ hf Tryz.underlying33 rfl (by kernel_rfl)) ?_
        simp only [Act.put, List.getElem_toArray, List.getElem_cons_zero, List.getElem_cons_succ, List.setIfInBounds_toArray, List.set_cons_zero, List.set_cons_succ]
        rw [hxv, hyv]
        refine takeQ 8 rfl (by kernel_rfl) rfl (by kernel_rfl) fun K hK => ?_
        simp only [List.getElem_toArray, List.getElem_cons_zero, List.getElem_cons_succ]
        go_big_quiet_op
        refine hK _ ?_
        clear hK K
        refine doneQ (by kernel_rfl) (hKQ.out _ _ ?_)
        clear hKQ KQ
        rcases bv with _ | _
        · go_wp2_with fail
          go_ret
          refine ⟨false, rfl, ?_, hbw.out⟩
          constructor
          · intro h; cases h
          · intro h
            subst h
            have := hx.out.symm.trans hy.out
            cases this
            have h2 := (eqRow_iff x x).2 rfl
            rw [hbv.out] at h2
            cases h2
        · go_wp2_with fail
          go_roundw
          case rel =>
            refine ⟨k + 1, by go_num, by omega, hbw, hid fun j x' y' hj h1 h2 => ?_⟩
            by_cases hjk : j = k
            · subst hjk
              rw [hx.out] at h1
              rw [hy.out] at h2
              cases h1
              cases h2
              exact (eqRow_iff _ _).1 hbv.out
            · exact hall.out j x' y' (by omega) h1 h2
          case measure => simp [intOf]; omega
      · obtain rfl : k = n1 := by omega
        have dk : decide ((k : Int) < (k : Int)) = false := by simp
        go_wp2_with fail
        go_ret
        refine ⟨true, rfl, ⟨fun _ => ?_, fun _ => rfl⟩, hbr.out⟩
        apply List.ext_getElem
        · rw [hn1.out, hn2.out]
        · intro j h1 h2
          exact hall.out j _ _ (by have := hn1.out; omega) (List.getElem?_eq_getElem h1) (List.getElem?_eq_getElem h2)
  · have dn : ((n1 : Int) == (n2 : Int)) = false := by simp; omega
    have hne' : l1 ≠ l2 := fun h => hne (by rw [← hn1, ← hn2, h])
    have hne' := hid hne'
    clear h1 h2 hne hn1 hn2
    go_enter Tryz.func15, Tryz.ntmps15
    go_wp2_with fail
    go_ret
    exact ⟨false, rfl, ⟨fun h => (by cases h), fun h => absurd h hne'.out⟩, Below.refl _ _⟩
end Go.Proofs.YtoinabapaeebfaaGreatDoor
