/- Contracts of package records (part 6): Check of a session's row. -/
import Derived.Test.YtoinabapaeebfaaGreatDoorPk11
set_option linter.unusedSimpArgs false
set_option linter.unusedVariables false
namespace Go.Proofs.YtoinabapaeebfaaGreatDoor
open Go.RowKit Go.Shelf

set_option maxRecDepth 100000 in
set_option maxHeartbeats 800000 in
theorem rec_Check_sess (client : List UInt8) (seq id : Int) (w : World) (hc : client.length ≤ 9223372036854775807) :
    Calls Tryz.prog 53 #[.agg (RowV.mk 1 client seq id [] [] 0 false 0).vals] w fun e w' => e = .returned (.int .i64 (if sessMay ⟨1, client, seq, id, [], [], 0, false, 0⟩ then 0 else 2)) ∧ Below w.heap.size w w' := by
  have C7 := hid fun w => kinds1 ⟨1, client, seq, id, [], [], 0, false, 0⟩ w hc
  have C8 := hid fun w => kinds2 ⟨1, client, seq, id, [], [], 0, false, 0⟩ w
  have CK := hid rec_kinds
  clear hc
  obtain ⟨bm, hbm⟩ : ∃ b, sessMay ⟨1, client, seq, id, [], [], 0, false, 0⟩ = b := ⟨_, rfl⟩
  rw [hbm] at C7 ⊢
  clear hbm
  unfold sessHas at C8
  unfold RowV.vals at *
  go_enter Tryz.func53, Tryz.ntmps53
  go_wp2
  refine regionQ [(1000, fun w' => w'.cell? ⟨w.heap.size, 0, none⟩ = some (.int .i64 1))] (by kernel_rfl) ⟨by go_simp, trivial⟩ fun KQ hKQ => ?_
  refine takeQ 1 rfl (by kernel_rfl) rfl (by kernel_rfl) fun K hK => ?_
  simp only [List.getElem_toArray, List.getElem_cons_zero, List.getElem_cons_succ]
  go_big_quiet_op
  refine hK _ ?_
  clear hK K
  refine loadQ 2 rfl (by kernel_rfl) (by kernel_rfl) rfl rfl 0 rfl (by kernel_rfl) _ (fun w' hf => by (go_simp <;> with_reducible rfl)) ?_
  simp only [Act.put, List.getElem_toArray, List.getElem_cons_zero, List.getElem_cons_succ, List.setIfInBounds_toArray, List.set_cons_zero, List.set_cons_succ]
  refine stepQ2 0 7 rfl rfl (by kernel_rfl) (by decide) (by kernel_rfl) (by kernel_rfl) (fun K hK => ?_) (fun K hK => ?_)
  · try simp only [List.getElem_toArray, List.getElem_cons_zero, List.getElem_cons_succ]
    go_simp
    refine (CK.out _).mono ?_
    rintro e w1 ⟨rfl, hm, hb⟩
    replace hb := undrew hb
    replace hm : w1.heap[w.heap.size + 1]? = some (.map kindsE 5) := by simpa using hm
    have hlt : w.heap.size + 1 < w1.heap.size := by
      rcases Nat.lt_or_ge (w.heap.size + 1) w1.heap.size with h | h
      · exact h
      · rw [Array.getElem?_eq_none h] at hm; cases hm
    have hm' : ∀ o, (w1.alloc o).heap[w.heap.size + 1]? = some (.map kindsE 5) := fun o => (Below.heap_alloc _ _ _ hlt).trans hm
    have HL' := fun o => run_lookup_at (P := Tryz.prog) 189 30 187 .i64 Tryz.underlying189 Tryz.underlying30 _ _ kindsE 5 (hm' o) 1 _ 0 rfl true
    have HL := run_lookup_at (P := Tryz.prog) 189 30 187 .i64 Tryz.underlying189 Tryz.underlying30 _ _ kindsE 5 hm 1 _ 0 rfl true
    simp only [kindV] at HL HL'
    refine hK _ _ ⟨⟨fun _ => cellB hb (j := 0) rfl, trivial⟩, ?_⟩
    clear hK K
    refine stepQ2 3 7 rfl rfl (by kernel_rfl) (by decide) (by kernel_rfl) (by kernel_rfl) (fun K hK => ?_) (fun K hK => ?_)
    · try simp only [List.getElem_toArray, List.getElem_cons_zero, List.getElem_cons_succ]
      go_simp
      refine hK _ _ ⟨⟨fun _ => cellB hb (j := 0) rfl, trivial⟩, ?_⟩
      clear hK K
      refine takeQ 4 rfl (by kernel_rfl) rfl (by kernel_rfl) fun K hK => ?_
      simp only [List.getElem_toArray, List.getElem_cons_zero, List.getElem_cons_succ]
      go_big_quiet_op
      refine hK _ ?_
      clear hK K
      refine takeQ 5 rfl (by kernel_rfl) rfl (by kernel_rfl) fun K hK => ?_
      simp only [List.getElem_toArray, List.getElem_cons_zero, List.getElem_cons_succ]
      go_big_quiet_op
      refine hK _ ?_
      clear hK K
      refine takeQ 6 rfl (by kernel_rfl) rfl (by kernel_rfl) fun K hK => ?_
      simp only [List.getElem_toArray, List.getElem_cons_zero, List.getElem_cons_succ]
      go_big_quiet_op
      refine hK _ ?_
      clear hK K
      refine stepQ 7 rfl (by kernel_rfl) (by decide) (by kernel_rfl) fun K hK => ?_
      simp only [List.getElem_toArray, List.getElem_cons_zero, List.getElem_cons_succ]
      go_simp
      refine hK _ _ ⟨⟨fun _ => cellB (hb.alloc hb.size _) (j := 0) rfl, trivial⟩, ?_⟩
      clear hK K
      refine stepQ 8 rfl (by kernel_rfl) (by decide) (by kernel_rfl) fun K hK => ?_
      simp only [List.getElem_toArray, List.getElem_cons_zero, List.getElem_cons_succ]
      go_simp
      refine hK _ _ ⟨⟨fun _ => cellB (hb.alloc hb.size _) (j := 0) rfl, trivial⟩, ?_⟩
      clear hK K
      refine stepQ 9 rfl (by kernel_rfl) (by decide) (by kernel_rfl) fun K hK => ?_
      simp only [List.getElem_toArray, List.getElem_cons_zero, List.getElem_cons_succ]
      go_simp
      refine hK _ _ ⟨⟨fun _ => cellB (hb.alloc hb.size _) (j := 0) rfl, trivial⟩, ?_⟩
      clear hK K
      refine doneQ (by kernel_rfl) (hKQ.out _ _ ?_)
      clear hKQ KQ
      have g0 : ∀ o, (w1.alloc o).cell? ⟨w.heap.size, 0, none⟩ = _ := fun o => cellB (hb.alloc hb.size o) (j := 0) rfl
      have g1 : ∀ o, (w1.alloc o).cell? ⟨w.heap.size, 1, none⟩ = _ := fun o => cellB (hb.alloc hb.size o) (j := 1) rfl
      have g2 : ∀ o, (w1.alloc o).cell? ⟨w.heap.size, 2, none⟩ = _ := fun o => cellB (hb.alloc hb.size o) (j := 2) rfl
      have g3 : ∀ o, (w1.alloc o).cell? ⟨w.heap.size, 3, none⟩ = _ := fun o => cellB (hb.alloc hb.size o) (j := 3) rfl
      have g4 : ∀ o, (w1.alloc o).cell? ⟨w.heap.size, 4, none⟩ = _ := fun o => cellB (hb.alloc hb.size o) (j := 4) rfl
      have g5 : ∀ o, (w1.alloc o).cell? ⟨w.heap.size, 5, none⟩ = _ := fun o => cellB (hb.alloc hb.size o) (j := 5) rfl
      have g6 : ∀ o, (w1.alloc o).cell? ⟨w.heap.size, 6, none⟩ = _ := fun o => cellB (hb.alloc hb.size o) (j := 6) rfl
      have g7 : ∀ o, (w1.alloc o).cell? ⟨w.heap.size, 7, none⟩ = _ := fun o => cellB (hb.alloc hb.size o) (j := 7) rfl
      have g8 : ∀ o, (w1.alloc o).cell? ⟨w.heap.size, 8, none⟩ = _ := fun o => cellB (hb.alloc hb.size o) (j := 8) rfl
      cases bm
      · go_wp2_with (go_at_call 149; refine (C7.out _).mono ?_; rintro e w2 ⟨rfl, hb2⟩; replace hb2 := (hb.alloc hb.size _).trans (hb2.mono (hb.alloc hb.size _).size))
        go_ret
        exact ⟨rfl, ((Below.refl w.heap.size w).alloc (Nat.le_refl _) _).trans (hb2.mono (by simp))⟩
      · go_wp2_with (first
          | (go_at_call 149; refine (C7.out _).mono ?_; rintro e w2 ⟨rfl, hb2⟩; have f2 := cellB (w := w1) hb2 (j := 2) rfl; replace hb2 := (hb.alloc hb.size _).trans (hb2.mono (hb.alloc hb.size _).size)
             have g0 : w2.cell? ⟨w.heap.size, 0, none⟩ = _ := cellB hb2 (j := 0) rfl
             have g1 : w2.cell? ⟨w.heap.size, 1, none⟩ = _ := cellB hb2 (j := 1) rfl
             have g2 : w2.cell? ⟨w.heap.size, 2, none⟩ = _ := cellB hb2 (j := 2) rfl
             have g3 : w2.cell? ⟨w.heap.size, 3, none⟩ = _ := cellB hb2 (j := 3) rfl
             have g4 : w2.cell? ⟨w.heap.size, 4, none⟩ = _ := cellB hb2 (j := 4) rfl
             have g5 : w2.cell? ⟨w.heap.size, 5, none⟩ = _ := cellB hb2 (j := 5) rfl
             have g6 : w2.cell? ⟨w.heap.size, 6, none⟩ = _ := cellB hb2 (j := 6) rfl
             have g7 : w2.cell? ⟨w.heap.size, 7, none⟩ = _ := cellB hb2 (j := 7) rfl
             have g8 : w2.cell? ⟨w.heap.size, 8, none⟩ = _ := cellB hb2 (j := 8) rfl
            )
          | (go_at_call 152; refine (C8.out _).mono ?_; rintro e w3 ⟨rfl, hb3⟩; replace hb3 := hb2.trans (hb3.mono hb2.size)
             have g0 : ∀ o, (w3.alloc o).cell? ⟨w.heap.size, 0, none⟩ = _ := fun o => cellB (hb3.alloc hb3.size o) (j := 0) rfl
             have g1 : ∀ o, (w3.alloc o).cell? ⟨w.heap.size, 1, none⟩ = _ := fun o => cellB (hb3.alloc hb3.size o) (j := 1) rfl
             have g2 : ∀ o, (w3.alloc o).cell? ⟨w.heap.size, 2, none⟩ = _ := fun o => cellB (hb3.alloc hb3.size o) (j := 2) rfl
             have g3 : ∀ o, (w3.alloc o).cell? ⟨w.heap.size, 3, none⟩ = _ := fun o => cellB (hb3.alloc hb3.size o) (j := 3) rfl
             have g4 : ∀ o, (w3.alloc o).cell? ⟨w.heap.size, 4, none⟩ = _ := fun o => cellB (hb3.alloc hb3.size o) (j := 4) rfl
             have g5 : ∀ o, (w3.alloc o).cell? ⟨w.heap.size, 5, none⟩ = _ := fun o => cellB (hb3.alloc hb3.size o) (j := 5) rfl
             have g6 : ∀ o, (w3.alloc o).cell? ⟨w.heap.size, 6, none⟩ = _ := fun o => cellB (hb3.alloc hb3.size o) (j := 6) rfl
             have g7 : ∀ o, (w3.alloc o).cell? ⟨w.heap.size, 7, none⟩ = _ := fun o => cellB (hb3.alloc hb3.size o) (j := 7) rfl
             have g8 : ∀ o, (w3.alloc o).cell? ⟨w.heap.size, 8, none⟩ = _ := fun o => cellB (hb3.alloc hb3.size o) (j := 8) rfl
            ))
        go_ret
        exact ⟨rfl, (((Below.refl w.heap.size w).alloc (Nat.le_refl _) _).trans (hb3.mono (by simp))).alloc (by have := hb3.size; simp at this; omega) _⟩
    · try simp only [List.getElem_toArray, List.getElem_cons_zero, List.getElem_cons_succ]
      go_simp
      refine hK _ _ ⟨⟨fun _ => cellB (hb.alloc hb.size _) (j := 0) rfl, trivial⟩, ?_⟩
      clear hK K
      refine stepQ 3 rfl (by kernel_rfl) (by decide) (by kernel_rfl) fun K hK => ?_
      simp only [List.getElem_toArray, List.getElem_cons_zero, List.getElem_cons_succ]
      go_simp
      refine hK _ _ ⟨⟨fun _ => cellB (hb.alloc hb.size _) (j := 0) rfl, trivial⟩, ?_⟩
      clear hK K
      refine takeQ 4 rfl (by kernel_rfl) rfl (by kernel_rfl) fun K hK => ?_
      simp only [List.getElem_toArray, List.getElem_cons_zero, List.getElem_cons_succ]
      go_big_quiet_op
      refine hK _ ?_
      clear hK K
      refine takeQ 5 rfl (by kernel_rfl) rfl (by kernel_rfl) fun K hK => ?_
      simp only [List.getElem_toArray, List.getElem_cons_zero, List.getElem_cons_succ]
      go_big_quiet_op
      refine hK _ ?_
      clear hK K
      refine takeQ 6 rfl (by kernel_rfl) rfl (by kernel_rfl) fun K hK => ?_
      simp only [List.getElem_toArray, List.getElem_cons_zero, List.getElem_cons_succ]
      go_big_quiet_op
      refine hK _ ?_
      clear hK K
      refine stepQ 8 rfl (by kernel_rfl) (by decide) (by kernel_rfl) fun K hK => ?_
      simp only [List.getElem_toArray, List.getElem_cons_zero, List.getElem_cons_succ]
      go_simp
      refine hK _ _ ⟨⟨fun _ => cellB (hb.alloc hb.size _) (j := 0) rfl, trivial⟩, ?_⟩
      clear hK K
      refine stepQ 9 rfl (by kernel_rfl) (by decide) (by kernel_rfl) fun K hK => ?_
      simp only [List.getElem_toArray, List.getElem_cons_zero, List.getElem_cons_succ]
      go_simp
      refine hK _ _ ⟨⟨fun _ => cellB (hb.alloc hb.size _) (j := 0) rfl, trivial⟩, ?_⟩
      clear hK K
      refine doneQ (by kernel_rfl) (hKQ.out _ _ ?_)
      clear hKQ KQ
      have g0 : ∀ o, (w1.alloc o).cell? ⟨w.heap.size, 0, none⟩ = _ := fun o => cellB (hb.alloc hb.size o) (j := 0) rfl
      have g1 : ∀ o, (w1.alloc o).cell? ⟨w.heap.size, 1, none⟩ = _ := fun o => cellB (hb.alloc hb.size o) (j := 1) rfl
      have g2 : ∀ o, (w1.alloc o).cell? ⟨w.heap.size, 2, none⟩ = _ := fun o => cellB (hb.alloc hb.size o) (j := 2) rfl
      have g3 : ∀ o, (w1.alloc o).cell? ⟨w.heap.size, 3, none⟩ = _ := fun o => cellB (hb.alloc hb.size o) (j := 3) rfl
      have g4 : ∀ o, (w1.alloc o).cell? ⟨w.heap.size, 4, none⟩ = _ := fun o => cellB (hb.alloc hb.size o) (j := 4) rfl
      have g5 : ∀ o, (w1.alloc o).cell? ⟨w.heap.size, 5, none⟩ = _ := fun o => cellB (hb.alloc hb.size o) (j := 5) rfl
      have g6 : ∀ o, (w1.alloc o).cell? ⟨w.heap.size, 6, none⟩ = _ := fun o => cellB (hb.alloc hb.size o) (j := 6) rfl
      have g7 : ∀ o, (w1.alloc o).cell? ⟨w.heap.size, 7, none⟩ = _ := fun o => cellB (hb.alloc hb.size o) (j := 7) rfl
      have g8 : ∀ o, (w1.alloc o).cell? ⟨w.heap.size, 8, none⟩ = _ := fun o => cellB (hb.alloc hb.size o) (j := 8) rfl
      cases bm
      · go_wp2_with (go_at_call 149; refine (C7.out _).mono ?_; rintro e w2 ⟨rfl, hb2⟩; replace hb2 := (hb.alloc hb.size _).trans (hb2.mono (hb.alloc hb.size _).size))
        go_ret
        exact ⟨rfl, ((Below.refl w.heap.size w).alloc (Nat.le_refl _) _).trans (hb2.mono (by simp))⟩
      · go_wp2_with (first
          | (go_at_call 149; refine (C7.out _).mono ?_; rintro e w2 ⟨rfl, hb2⟩; have f2 := cellB (w := w1) hb2 (j := 2) rfl; replace hb2 := (hb.alloc hb.size _).trans (hb2.mono (hb.alloc hb.size _).size)
             have g0 : w2.cell? ⟨w.heap.size, 0, none⟩ = _ := cellB hb2 (j := 0) rfl
             have g1 : w2.cell? ⟨w.heap.size, 1, none⟩ = _ := cellB hb2 (j := 1) rfl
             have g2 : w2.cell? ⟨w.heap.size, 2, none⟩ = _ := cellB hb2 (j := 2) rfl
             have g3 : w2.cell? ⟨w.heap.size, 3, none⟩ = _ := cellB hb2 (j := 3) rfl
             have g4 : w2.cell? ⟨w.heap.size, 4, none⟩ = _ := cellB hb2 (j := 4) rfl
             have g5 : w2.cell? ⟨w.heap.size, 5, none⟩ = _ := cellB hb2 (j := 5) rfl
             have g6 : w2.cell? ⟨w.heap.size, 6, none⟩ = _ := cellB hb2 (j := 6) rfl
             have g7 : w2.cell? ⟨w.heap.size, 7, none⟩ = _ := cellB hb2 (j := 7) rfl
             have g8 : w2.cell? ⟨w.heap.size, 8, none⟩ = _ := cellB hb2 (j := 8) rfl
            )
          | (go_at_call 152; refine (C8.out _).mono ?_; rintro e w3 ⟨rfl, hb3⟩; replace hb3 := hb2.trans (hb3.mono hb2.size)
             have g0 : ∀ o, (w3.alloc o).cell? ⟨w.heap.size, 0, none⟩ = _ := fun o => cellB (hb3.alloc hb3.size o) (j := 0) rfl
             have g1 : ∀ o, (w3.alloc o).cell? ⟨w.heap.size, 1, none⟩ = _ := fun o => cellB (hb3.alloc hb3.size o) (j := 1) rfl
             have g2 : ∀ o, (w3.alloc o).cell? ⟨w.heap.size, 2, none⟩ = _ := fun o => cellB (hb3.alloc hb3.size o) (j := 2) rfl
             have g3 : ∀ o, (w3.alloc o).cell? ⟨w.heap.size, 3, none⟩ = _ := fun o => cellB (hb3.alloc hb3.size o) (j := 3) rfl
             have g4 : ∀ o, (w3.alloc o).cell? ⟨w.heap.size, 4, none⟩ = _ := fun o => cellB (hb3.alloc hb3.size o) (j := 4) rfl
             have g5 : ∀ o, (w3.alloc o).cell? ⟨w.heap.size, 5, none⟩ = _ := fun o => cellB (hb3.alloc hb3.size o) (j := 5) rfl
             have g6 : ∀ o, (w3.alloc o).cell? ⟨w.heap.size, 6, none⟩ = _ := fun o => cellB (hb3.alloc hb3.size o) (j := 6) rfl
             have g7 : ∀ o, (w3.alloc o).cell? ⟨w.heap.size, 7, none⟩ = _ := fun o => cellB (hb3.alloc hb3.size o) (j := 7) rfl
             have g8 : ∀ o, (w3.alloc o).cell? ⟨w.heap.size, 8, none⟩ = _ := fun o => cellB (hb3.alloc hb3.size o) (j := 8) rfl
            ))
        go_ret
        exact ⟨rfl, (((Below.refl w.heap.size w).alloc (Nat.le_refl _) _).trans (hb3.mono (by simp))).alloc (by have := hb3.size; simp at this; omega) _⟩
  · try simp only [List.getElem_toArray, List.getElem_cons_zero, List.getElem_cons_succ]
    go_simp
    refine hK _ _ ⟨⟨fun _ => by go_simp, trivial⟩, ?_⟩
    clear hK K
    refine stepQ 0 rfl (by kernel_rfl) (by decide) (by kernel_rfl) fun K hK => ?_
    simp only [List.getElem_toArray, List.getElem_cons_zero, List.getElem_cons_succ]
    go_simp
    refine (CK.out _).mono ?_
    rintro e w1 ⟨rfl, hm, hb⟩
    replace hb := undrew hb
    have hbr := below_pop hb
    have k0 := cellB hb (j := 0) rfl
    have k1 := cellB hb (j := 1) rfl
    have k2 := cellB hb (j := 2) rfl
    have k3 := cellB hb (j := 3) rfl
    have k4 := cellB hb (j := 4) rfl
    replace hm : w1.heap[w.heap.size + 2]? = some (.map kindsE 5) := by simpa using hm
    have HL := run_lookup_at (P := Tryz.prog) 189 30 187 .i64 Tryz.underlying189 Tryz.underlying30 _ _ kindsE 5 hm 1 _ 0 rfl true
    simp only [kindV] at HL
    refine hK _ _ ⟨⟨fun _ => cellB hbr (j := 0) rfl, trivial⟩, ?_⟩
    clear hK K
    refine stepQ 3 rfl (by kernel_rfl) (by decide) (by kernel_rfl) fun K hK => ?_
    simp only [List.getElem_toArray, List.getElem_cons_zero, List.getElem_cons_succ]
    go_simp
    refine hK _ _ ⟨⟨fun _ => cellB hbr (j := 0) rfl, trivial⟩, ?_⟩
    clear hK K
    refine takeQ 4 rfl (by kernel_rfl) rfl (by kernel_rfl) fun K hK => ?_
    simp only [List.getElem_toArray, List.getElem_cons_zero, List.getElem_cons_succ]
    go_big_quiet_op
    refine hK _ ?_
    clear hK K
    refine takeQ 5 rfl (by kernel_rfl) rfl (by kernel_rfl) fun K hK => ?_
    simp only [List.getElem_toArray, List.getElem_cons_zero, List.getElem_cons_succ]
    go_big_quiet_op
    refine hK _ ?_
    clear hK K
    refine takeQ 6 rfl (by kernel_rfl) rfl (by kernel_rfl) fun K hK => ?_
    simp only [List.getElem_toArray, List.getElem_cons_zero, List.getElem_cons_succ]
    go_big_quiet_op
    refine hK _ ?_
    clear hK K
    refine stepQ 8 rfl (by kernel_rfl) (by decide) (by kernel_rfl) fun K hK => ?_
    simp only [List.getElem_toArray, List.getElem_cons_zero, List.getElem_cons_succ]
    have z0 := frozenB hb 0
    have z1 := frozenB hb 1
    have z2 := frozenB hb 2
    have z3 := frozenB hb 3
    have z4 := frozenB hb 4
    simp only [World.size_alloc] at k0 k1 k2 k3 k4 z0 z1 z2 z3 z4
    go_simp
    have hbs := fun v0 v1 v2 v3 v4 => (((((hbr.setCell (p := ⟨w.heap.size + 1, 0, none⟩) (by simp) v0).setCell (p := ⟨w.heap.size + 1, 1, none⟩) (by simp) v1).setCell (p := ⟨w.heap.size + 1, 2, none⟩) (by simp) v2).setCell (p := ⟨w.heap.size + 1, 3, none⟩) (by simp) v3).setCell (p := ⟨w.heap.size + 1, 4, none⟩) (by simp) v4)
    refine hK _ _ ⟨⟨fun _ => cellB (hbs _ _ _ _ _) (j := 0) rfl, trivial⟩, ?_⟩
    clear hK K
    refine atR_gen (fun w' => Below (w.alloc (.cells #[.int .i64 1, .string ⟨client.toArray⟩, .int .i64 seq, .int .i64 id, .string ⟨#[]⟩, .string ⟨#[]⟩, .int .i64 0, .bool false, .int .i64 0] 33)).heap.size (w.alloc (.cells #[.int .i64 1, .string ⟨client.toArray⟩, .int .i64 seq, .int .i64 id, .string ⟨#[]⟩, .string ⟨#[]⟩, .int .i64 0, .bool false, .int .i64 0] 33)) w' ∧ w'.cell? ⟨w.heap.size + 1, 1, none⟩ = some (.func (.func 149) #[] #[]) ∧ w'.cell? ⟨w.heap.size + 1, 2, none⟩ = some (.func (.func 152) #[] #[]) ∧ w.heap.size + 1 < w'.heap.size) ⟨hbs _ _ _ _ _, by go_simp, by go_simp, by have := hb.size; simp at this ⊢; omega⟩ fun w2 ⟨hb, f1, f2, hlt⟩ => ?_
    refine stepQ 9 rfl (by kernel_rfl) (by decide) (by kernel_rfl) fun K hK => ?_
    simp only [List.getElem_toArray, List.getElem_cons_zero, List.getElem_cons_succ]
    go_simp
    refine hK _ _ ⟨⟨fun _ => cellB hb (j := 0) rfl, trivial⟩, ?_⟩
    clear hK K
    refine doneQ (by kernel_rfl) (hKQ.out _ _ ?_)
    clear hKQ KQ
    have g0 : w2.cell? ⟨w.heap.size, 0, none⟩ = _ := cellB hb (j := 0) rfl
    have g1 : w2.cell? ⟨w.heap.size, 1, none⟩ = _ := cellB hb (j := 1) rfl
    have g2 : w2.cell? ⟨w.heap.size, 2, none⟩ = _ := cellB hb (j := 2) rfl
    have g3 : w2.cell? ⟨w.heap.size, 3, none⟩ = _ := cellB hb (j := 3) rfl
    have g4 : w2.cell? ⟨w.heap.size, 4, none⟩ = _ := cellB hb (j := 4) rfl
    have g5 : w2.cell? ⟨w.heap.size, 5, none⟩ = _ := cellB hb (j := 5) rfl
    have g6 : w2.cell? ⟨w.heap.size, 6, none⟩ = _ := cellB hb (j := 6) rfl
    have g7 : w2.cell? ⟨w.heap.size, 7, none⟩ = _ := cellB hb (j := 7) rfl
    have g8 : w2.cell? ⟨w.heap.size, 8, none⟩ = _ := cellB hb (j := 8) rfl
    cases bm
    · go_wp2_with (go_at_call 149; refine (C7.out _).mono ?_; rintro e w3 ⟨rfl, hb2⟩; replace hb2 := hb.trans (hb2.mono hb.size))
      go_ret
      exact ⟨rfl, below_pop hb2⟩
    · go_wp2_with (first
        | (go_at_call 149; refine (C7.out _).mono ?_; rintro e w3 ⟨rfl, hb3⟩; have f3 := (hb3.cell (p := ⟨w.heap.size + 1, 2, none⟩) hlt).trans f2; replace hb3 := hb.trans (hb3.mono hb.size)
           have g0 : w3.cell? ⟨w.heap.size, 0, none⟩ = _ := cellB hb3 (j := 0) rfl
           have g1 : w3.cell? ⟨w.heap.size, 1, none⟩ = _ := cellB hb3 (j := 1) rfl
           have g2 : w3.cell? ⟨w.heap.size, 2, none⟩ = _ := cellB hb3 (j := 2) rfl
           have g3 : w3.cell? ⟨w.heap.size, 3, none⟩ = _ := cellB hb3 (j := 3) rfl
           have g4 : w3.cell? ⟨w.heap.size, 4, none⟩ = _ := cellB hb3 (j := 4) rfl
           have g5 : w3.cell? ⟨w.heap.size, 5, none⟩ = _ := cellB hb3 (j := 5) rfl
           have g6 : w3.cell? ⟨w.heap.size, 6, none⟩ = _ := cellB hb3 (j := 6) rfl
           have g7 : w3.cell? ⟨w.heap.size, 7, none⟩ = _ := cellB hb3 (j := 7) rfl
           have g8 : w3.cell? ⟨w.heap.size, 8, none⟩ = _ := cellB hb3 (j := 8) rfl
          )
        | (go_at_call 152; refine (C8.out _).mono ?_; rintro e w4 ⟨rfl, hb4⟩; replace hb4 := hb3.trans (hb4.mono hb3.size)
           have g0 : ∀ o, (w4.alloc o).cell? ⟨w.heap.size, 0, none⟩ = _ := fun o => cellB (hb4.alloc hb4.size o) (j := 0) rfl
           have g1 : ∀ o, (w4.alloc o).cell? ⟨w.heap.size, 1, none⟩ = _ := fun o => cellB (hb4.alloc hb4.size o) (j := 1) rfl
           have g2 : ∀ o, (w4.alloc o).cell? ⟨w.heap.size, 2, none⟩ = _ := fun o => cellB (hb4.alloc hb4.size o) (j := 2) rfl
           have g3 : ∀ o, (w4.alloc o).cell? ⟨w.heap.size, 3, none⟩ = _ := fun o => cellB (hb4.alloc hb4.size o) (j := 3) rfl
           have g4 : ∀ o, (w4.alloc o).cell? ⟨w.heap.size, 4, none⟩ = _ := fun o => cellB (hb4.alloc hb4.size o) (j := 4) rfl
           have g5 : ∀ o, (w4.alloc o).cell? ⟨w.heap.size, 5, none⟩ = _ := fun o => cellB (hb4.alloc hb4.size o) (j := 5) rfl
           have g6 : ∀ o, (w4.alloc o).cell? ⟨w.heap.size, 6, none⟩ = _ := fun o => cellB (hb4.alloc hb4.size o) (j := 6) rfl
           have g7 : ∀ o, (w4.alloc o).cell? ⟨w.heap.size, 7, none⟩ = _ := fun o => cellB (hb4.alloc hb4.size o) (j := 7) rfl
           have g8 : ∀ o, (w4.alloc o).cell? ⟨w.heap.size, 8, none⟩ = _ := fun o => cellB (hb4.alloc hb4.size o) (j := 8) rfl
          ))
      go_ret
      exact ⟨rfl, ((below_pop hb4).alloc (by have := (below_pop hb4).size; omega) _)⟩
end Go.Proofs.YtoinabapaeebfaaGreatDoor
