/- Contracts of package records (part 5): Check. · Plain words on sets of numbers as bits of words: how many bits are set, a bit turned. No program in sight. · Contracts of package inbox (part 2): where an inbox lies; New. · math/bits.TrailingZeros64 by the shelf's theorem. · Contracts of package inbox (part 3): at, Has, turn. · Contracts of package inbox (part 4): each, count, Len. -/
import Derived.Test.YtoinabapaeebfaaGreatDoorPk04
import Derived.Laws.EntriesVeiled
import Derived.Test.YtoinabapaeebfaaGreatDoorPk01
import Derived.Handy
import Derived.Test.YtoinabapaeebfaaGreatDoorPk02
import Derived.Shelf.Spec.TrailingZeros
import Derived.Test.YtoinabapaeebfaaGreatDoorPk03
import Derived.BigRegionIn
import Derived.RegionIn
set_option linter.unusedSimpArgs false
set_option linter.unusedVariables false
namespace Go.Proofs.YtoinabapaeebfaaGreatDoor
open Go.RowKit Go.Shelf

theorem below_pop {w w1 : World} {o : Obj} (h : Below (w.alloc o).heap.size (w.alloc o) w1) : Below w.heap.size w w1 := ((Below.refl _ w).alloc (Nat.le_refl _) o).trans (h.mono (by simp))
theorem atR_gen {P : Program} {ops : Array Oper} {KQ : Act → World → Prop} {facts : List Fact} {taken : List Nat} {a : Act} {w : World} (C : World → Prop) (hC : C w) (h : ∀ w', C w' → atR P ops KQ facts taken a w') : atR P ops KQ facts taken a w := h w hC
theorem frozenB {w w1 : World} {cs : Array Value} {T : Nat} (hb : Below (w.alloc (.cells cs T)).heap.size (w.alloc (.cells cs T)) w1) (j : Nat) : w1.frozen? ⟨w.heap.size, j, none⟩ = false := by
  rw [hb.frozen (by simp)]
  simp
theorem undrew {w w1 : World} (h : Below w.drew.heap.size w.drew w1) : Below w.heap.size w w1 := ⟨h.os, h.tape, h.output, h.size, h.block⟩

set_option maxRecDepth 100000 in
set_option maxHeartbeats 800000 in
theorem rec_Check_put (r : RowV) (w : World) (hkd : r.kind = 3) (hst : r.stage = 1) (hid0 : r.id = 0) (hc : r.client.length ≤ 9223372036854775807) (ht : r.topic.length ≤ 9223372036854775807) (hA : AnyOK r.topic) :
    Calls Tryz.prog 53 #[.agg r.vals] w fun e w' => e = .returned (.int .i64 (if putMay r then 0 else 2)) ∧ Below w.heap.size w w' := by
  have C7 := hid fun w => kinds7_put r w hst hid0 hc ht hA
  have C8 := hid fun w => kinds8 r w
  have CK := hid rec_kinds
  clear hst hid0 hc ht hA
  obtain ⟨kind, client, seq, id, topic, body, qos, retain, stage⟩ := r
  simp only at hkd
  subst hkd
  obtain ⟨bm, hbm⟩ : ∃ b, putMay ⟨3, client, seq, id, topic, body, qos, retain, stage⟩ = b := ⟨_, rfl⟩
  rw [hbm] at C7 ⊢
  clear hbm
  unfold RowV.vals at *
  go_enter Tryz.func53, Tryz.ntmps53
  go_wp2
  refine regionQ [(1000, fun w' => w'.cell? ⟨w.heap.size, 0, none⟩ = some (.int .i64 3))] (by kernel_rfl) ⟨by go_simp, trivial⟩ fun KQ hKQ => ?_
  refine takeQ 1 rfl (by kernel_rfl) rfl (by kernel_rfl) fun K hK => ?_
  simp only [List.getElem_toArray, List.getElem_cons_zero, List.getElem_cons_succ]
  go_big_quiet_op
  refine hK _ ?_
  clear hK K
  refine loadQ 2 rfl (by kernel_rfl) (by kernel_rfl) rfl rfl 0 rfl (by kernel_rfl) _ (fun w' hf => by (go_simp <;> with_reducible rfl)) ?_
  simp only [Act.put, List.getElem_toArray, List.getElem_cons_zero, List.getElem_cons_succ, List.setIfInBounds_toArray, List.set_cons_zero, List.set_cons_succ]
  refine stepQ2 0 7 rfl rfl (by kernel_rfl) (by decide) (by kernel_rfl) (by kernel_rfl) (fun K hK => ?_) (fun K hK => ?_)
  · try simp only [List.getElem_toArray, List.getElem_cons_zero, List.getElem_cons_succ]
    go_simp
    refine (CK.out _).mono ?_
    rintro e w1 ⟨rfl, hm, hb⟩
    replace hb := undrew hb
    replace hm : w1.heap[w.heap.size + 1]? = some (.map kindsE 5) := by simpa using hm
    have hlt : w.heap.size + 1 < w1.heap.size := by
      rcases Nat.lt_or_ge (w.heap.size + 1) w1.heap.size with h | h
      · exact h
      · rw [Array.getElem?_eq_none h] at hm; cases hm
    have hm' : ∀ o, (w1.alloc o).heap[w.heap.size + 1]? = some (.map kindsE 5) := fun o => (Below.heap_alloc _ _ _ hlt).trans hm
    have HL' := fun o => run_lookup_at (P := Tryz.prog) 189 30 187 .i64 Tryz.underlying189 Tryz.underlying30 _ _ kindsE 5 (hm' o) 3 _ 2 rfl true
    have HL := run_lookup_at (P := Tryz.prog) 189 30 187 .i64 Tryz.underlying189 Tryz.underlying30 _ _ kindsE 5 hm 3 _ 2 rfl true
    simp only [kindV] at HL HL'
    refine hK _ _ ⟨⟨fun _ => cellB hb (j := 0) rfl, trivial⟩, ?_⟩
    clear hK K
    refine stepQ2 3 7 rfl rfl (by kernel_rfl) (by decide) (by kernel_rfl) (by kernel_rfl) (fun K hK => ?_) (fun K hK => ?_)
    · try simp only [List.getElem_toArray, List.getElem_cons_zero, List.getElem_cons_succ]
      go_simp
      refine hK _ _ ⟨⟨fun _ => cellB hb (j := 0) rfl, trivial⟩, ?_⟩
      clear hK K
      refine takeQ 4 rfl (by kernel_rfl) rfl (by kernel_rfl) fun K hK => ?_
      simp only [List.getElem_toArray, List.getElem_cons_zero, List.getElem_cons_succ]
      go_big_quiet_op
      refine hK _ ?_
      clear hK K
      refine takeQ 5 rfl (by kernel_rfl) rfl (by kernel_rfl) fun K hK => ?_
      simp only [List.getElem_toArray, List.getElem_cons_zero, List.getElem_cons_succ]
      go_big_quiet_op
      refine hK _ ?_
      clear hK K
      refine takeQ 6 rfl (by kernel_rfl) rfl (by kernel_rfl) fun K hK => ?_
      simp only [List.getElem_toArray, List.getElem_cons_zero, List.getElem_cons_succ]
      go_big_quiet_op
      refine hK _ ?_
      clear hK K
      refine stepQ 7 rfl (by kernel_rfl) (by decide) (by kernel_rfl) fun K hK => ?_
      simp only [List.getElem_toArray, List.getElem_cons_zero, List.getElem_cons_succ]
      go_simp
      refine hK _ _ ⟨⟨fun _ => cellB (hb.alloc hb.size _) (j := 0) rfl, trivial⟩, ?_⟩
      clear hK K
      refine stepQ 8 rfl (by kernel_rfl) (by decide) (by kernel_rfl) fun K hK => ?_
      simp only [List.getElem_toArray, List.getElem_cons_zero, List.getElem_cons_succ]
      go_simp
      refine hK _ _ ⟨⟨fun _ => cellB (hb.alloc hb.size _) (j := 0) rfl, trivial⟩, ?_⟩
      clear hK K
      refine stepQ 9 rfl (by kernel_rfl) (by decide) (by kernel_rfl) fun K hK => ?_
      simp only [List.getElem_toArray, List.getElem_cons_zero, List.getElem_cons_succ]
      go_simp
      refine hK _ _ ⟨⟨fun _ => cellB (hb.alloc hb.size _) (j := 0) rfl, trivial⟩, ?_⟩
      clear hK K
      refine doneQ (by kernel_rfl) (hKQ.out _ _ ?_)
      clear hKQ KQ
      have g0 : ∀ o, (w1.alloc o).cell? ⟨w.heap.size, 0, none⟩ = _ := fun o => cellB (hb.alloc hb.size o) (j := 0) rfl
      have g1 : ∀ o, (w1.alloc o).cell? ⟨w.heap.size, 1, none⟩ = _ := fun o => cellB (hb.alloc hb.size o) (j := 1) rfl
      have g2 : ∀ o, (w1.alloc o).cell? ⟨w.heap.size, 2, none⟩ = _ := fun o => cellB (hb.alloc hb.size o) (j := 2) rfl
      have g3 : ∀ o, (w1.alloc o).cell? ⟨w.heap.size, 3, none⟩ = _ := fun o => cellB (hb.alloc hb.size o) (j := 3) rfl
      have g4 : ∀ o, (w1.alloc o).cell? ⟨w.heap.size, 4, none⟩ = _ := fun o => cellB (hb.alloc hb.size o) (j := 4) rfl
      have g5 : ∀ o, (w1.alloc o).cell? ⟨w.heap.size, 5, none⟩ = _ := fun o => cellB (hb.alloc hb.size o) (j := 5) rfl
      have g6 : ∀ o, (w1.alloc o).cell? ⟨w.heap.size, 6, none⟩ = _ := fun o => cellB (hb.alloc hb.size o) (j := 6) rfl
      have g7 : ∀ o, (w1.alloc o).cell? ⟨w.heap.size, 7, none⟩ = _ := fun o => cellB (hb.alloc hb.size o) (j := 7) rfl
      have g8 : ∀ o, (w1.alloc o).cell? ⟨w.heap.size, 8, none⟩ = _ := fun o => cellB (hb.alloc hb.size o) (j := 8) rfl
      cases bm
      · go_wp2_with (go_at_call 159; refine (C7.out _).mono ?_; rintro e w2 ⟨rfl, hb2⟩; replace hb2 := (hb.alloc hb.size _).trans (hb2.mono (hb.alloc hb.size _).size))
        go_ret
        exact ⟨rfl, ((Below.refl w.heap.size w).alloc (Nat.le_refl _) _).trans (hb2.mono (by simp))⟩
      · go_wp2_with (first
          | (go_at_call 159; refine (C7.out _).mono ?_; rintro e w2 ⟨rfl, hb2⟩; have f2 := cellB (w := w1) hb2 (j := 2) rfl; replace hb2 := (hb.alloc hb.size _).trans (hb2.mono (hb.alloc hb.size _).size)
             have g0 : w2.cell? ⟨w.heap.size, 0, none⟩ = _ := cellB hb2 (j := 0) rfl
             have g1 : w2.cell? ⟨w.heap.size, 1, none⟩ = _ := cellB hb2 (j := 1) rfl
             have g2 : w2.cell? ⟨w.heap.size, 2, none⟩ = _ := cellB hb2 (j := 2) rfl
             have g3 : w2.cell? ⟨w.heap.size, 3, none⟩ = _ := cellB hb2 (j := 3) rfl
             have g4 : w2.cell? ⟨w.heap.size, 4, none⟩ = _ := cellB hb2 (j := 4) rfl
             have g5 : w2.cell? ⟨w.heap.size, 5, none⟩ = _ := cellB hb2 (j := 5) rfl
             have g6 : w2.cell? ⟨w.heap.size, 6, none⟩ = _ := cellB hb2 (j := 6) rfl
             have g7 : w2.cell? ⟨w.heap.size, 7, none⟩ = _ := cellB hb2 (j := 7) rfl
             have g8 : w2.cell? ⟨w.heap.size, 8, none⟩ = _ := cellB hb2 (j := 8) rfl
            )
          | (go_at_call 160; refine (C8.out _).mono ?_; rintro e w3 ⟨rfl, hb3⟩; replace hb3 := hb2.trans (hb3.mono hb2.size)
             have g0 : ∀ o, (w3.alloc o).cell? ⟨w.heap.size, 0, none⟩ = _ := fun o => cellB (hb3.alloc hb3.size o) (j := 0) rfl
             have g1 : ∀ o, (w3.alloc o).cell? ⟨w.heap.size, 1, none⟩ = _ := fun o => cellB (hb3.alloc hb3.size o) (j := 1) rfl
             have g2 : ∀ o, (w3.alloc o).cell? ⟨w.heap.size, 2, none⟩ = _ := fun o => cellB (hb3.alloc hb3.size o) (j := 2) rfl
             have g3 : ∀ o, (w3.alloc o).cell? ⟨w.heap.size, 3, none⟩ = _ := fun o => cellB (hb3.alloc hb3.size o) (j := 3) rfl
             have g4 : ∀ o, (w3.alloc o).cell? ⟨w.heap.size, 4, none⟩ = _ := fun o => cellB (hb3.alloc hb3.size o) (j := 4) rfl
             have g5 : ∀ o, (w3.alloc o).cell? ⟨w.heap.size, 5, none⟩ = _ := fun o => cellB (hb3.alloc hb3.size o) (j := 5) rfl
             have g6 : ∀ o, (w3.alloc o).cell? ⟨w.heap.size, 6, none⟩ = _ := fun o => cellB (hb3.alloc hb3.size o) (j := 6) rfl
             have g7 : ∀ o, (w3.alloc o).cell? ⟨w.heap.size, 7, none⟩ = _ := fun o => cellB (hb3.alloc hb3.size o) (j := 7) rfl
             have g8 : ∀ o, (w3.alloc o).cell? ⟨w.heap.size, 8, none⟩ = _ := fun o => cellB (hb3.alloc hb3.size o) (j := 8) rfl
            ))
        go_ret
        exact ⟨rfl, (((Below.refl w.heap.size w).alloc (Nat.le_refl _) _).trans (hb3.mono (by simp))).alloc (by have := hb3.size; simp at this; omega) _⟩
    · try simp only [List.getElem_toArray, List.getElem_cons_zero, List.getElem_cons_succ]
      go_simp
      refine hK _ _ ⟨⟨fun _ => cellB (hb.alloc hb.size _) (j := 0) rfl, trivial⟩, ?_⟩
      clear hK K
      refine stepQ 3 rfl (by kernel_rfl) (by decide) (by kernel_rfl) fun K hK => ?_
      simp only [List.getElem_toArray, List.getElem_cons_zero, List.getElem_cons_succ]
      go_simp
      refine hK _ _ ⟨⟨fun _ => cellB (hb.alloc hb.size _) (j := 0) rfl, trivial⟩, ?_⟩
      clear hK K
      refine takeQ 4 rfl (by kernel_rfl) rfl (by kernel_rfl) fun K hK => ?_
      simp only [List.getElem_toArray, List.getElem_cons_zero, List.getElem_cons_succ]
      go_big_quiet_op
      refine hK _ ?_
      clear hK K
      refine takeQ 5 rfl (by kernel_rfl) rfl (by kernel_rfl) fun K hK => ?_
      simp only [List.getElem_toArray, List.getElem_cons_zero, List.getElem_cons_succ]
      go_big_quiet_op
      refine hK _ ?_
      clear hK K
      refine takeQ 6 rfl (by kernel_rfl) rfl (by kernel_rfl) fun K hK => ?_
      simp only [List.getElem_toArray, List.getElem_cons_zero, List.getElem_cons_succ]
      go_big_quiet_op
      refine hK _ ?_
      clear hK K
      refine stepQ 8 rfl (by kernel_rfl) (by decide) (by kernel_rfl) fun K hK => ?_
      simp only [List.getElem_toArray, List.getElem_cons_zero, List.getElem_cons_succ]
      go_simp
      refine hK _ _ ⟨⟨fun _ => cellB (hb.alloc hb.size _) (j := 0) rfl, trivial⟩, ?_⟩
      clear hK K
      refine stepQ 9 rfl (by kernel_rfl) (by decide) (by kernel_rfl) fun K hK => ?_
      simp only [List.getElem_toArray, List.getElem_cons_zero, List.getElem_cons_succ]
      go_simp
      refine hK _ _ ⟨⟨fun _ => cellB (hb.alloc hb.size _) (j := 0) rfl, trivial⟩, ?_⟩
      clear hK K
      refine doneQ (by kernel_rfl) (hKQ.out _ _ ?_)
      clear hKQ KQ
      have g0 : ∀ o, (w1.alloc o).cell? ⟨w.heap.size, 0, none⟩ = _ := fun o => cellB (hb.alloc hb.size o) (j := 0) rfl
      have g1 : ∀ o, (w1.alloc o).cell? ⟨w.heap.size, 1, none⟩ = _ := fun o => cellB (hb.alloc hb.size o) (j := 1) rfl
      have g2 : ∀ o, (w1.alloc o).cell? ⟨w.heap.size, 2, none⟩ = _ := fun o => cellB (hb.alloc hb.size o) (j := 2) rfl
      have g3 : ∀ o, (w1.alloc o).cell? ⟨w.heap.size, 3, none⟩ = _ := fun o => cellB (hb.alloc hb.size o) (j := 3) rfl
      have g4 : ∀ o, (w1.alloc o).cell? ⟨w.heap.size, 4, none⟩ = _ := fun o => cellB (hb.alloc hb.size o) (j := 4) rfl
      have g5 : ∀ o, (w1.alloc o).cell? ⟨w.heap.size, 5, none⟩ = _ := fun o => cellB (hb.alloc hb.size o) (j := 5) rfl
      have g6 : ∀ o, (w1.alloc o).cell? ⟨w.heap.size, 6, none⟩ = _ := fun o => cellB (hb.alloc hb.size o) (j := 6) rfl
      have g7 : ∀ o, (w1.alloc o).cell? ⟨w.heap.size, 7, none⟩ = _ := fun o => cellB (hb.alloc hb.size o) (j := 7) rfl
      have g8 : ∀ o, (w1.alloc o).cell? ⟨w.heap.size, 8, none⟩ = _ := fun o => cellB (hb.alloc hb.size o) (j := 8) rfl
      cases bm
      · go_wp2_with (go_at_call 159; refine (C7.out _).mono ?_; rintro e w2 ⟨rfl, hb2⟩; replace hb2 := (hb.alloc hb.size _).trans (hb2.mono (hb.alloc hb.size _).size))
        go_ret
        exact ⟨rfl, ((Below.refl w.heap.size w).alloc (Nat.le_refl _) _).trans (hb2.mono (by simp))⟩
      · go_wp2_with (first
          | (go_at_call 159; refine (C7.out _).mono ?_; rintro e w2 ⟨rfl, hb2⟩; have f2 := cellB (w := w1) hb2 (j := 2) rfl; replace hb2 := (hb.alloc hb.size _).trans (hb2.mono (hb.alloc hb.size _).size)
             have g0 : w2.cell? ⟨w.heap.size, 0, none⟩ = _ := cellB hb2 (j := 0) rfl
             have g1 : w2.cell? ⟨w.heap.size, 1, none⟩ = _ := cellB hb2 (j := 1) rfl
             have g2 : w2.cell? ⟨w.heap.size, 2, none⟩ = _ := cellB hb2 (j := 2) rfl
             have g3 : w2.cell? ⟨w.heap.size, 3, none⟩ = _ := cellB hb2 (j := 3) rfl
             have g4 : w2.cell? ⟨w.heap.size, 4, none⟩ = _ := cellB hb2 (j := 4) rfl
             have g5 : w2.cell? ⟨w.heap.size, 5, none⟩ = _ := cellB hb2 (j := 5) rfl
             have g6 : w2.cell? ⟨w.heap.size, 6, none⟩ = _ := cellB hb2 (j := 6) rfl
             have g7 : w2.cell? ⟨w.heap.size, 7, none⟩ = _ := cellB hb2 (j := 7) rfl
             have g8 : w2.cell? ⟨w.heap.size, 8, none⟩ = _ := cellB hb2 (j := 8) rfl
            )
          | (go_at_call 160; refine (C8.out _).mono ?_; rintro e w3 ⟨rfl, hb3⟩; replace hb3 := hb2.trans (hb3.mono hb2.size)
             have g0 : ∀ o, (w3.alloc o).cell? ⟨w.heap.size, 0, none⟩ = _ := fun o => cellB (hb3.alloc hb3.size o) (j := 0) rfl
             have g1 : ∀ o, (w3.alloc o).cell? ⟨w.heap.size, 1, none⟩ = _ := fun o => cellB (hb3.alloc hb3.size o) (j := 1) rfl
             have g2 : ∀ o, (w3.alloc o).cell? ⟨w.heap.size, 2, none⟩ = _ := fun o => cellB (hb3.alloc hb3.size o) (j := 2) rfl
             have g3 : ∀ o, (w3.alloc o).cell? ⟨w.heap.size, 3, none⟩ = _ := fun o => cellB (hb3.alloc hb3.size o) (j := 3) rfl
             have g4 : ∀ o, (w3.alloc o).cell? ⟨w.heap.size, 4, none⟩ = _ := fun o => cellB (hb3.alloc hb3.size o) (j := 4) rfl
             have g5 : ∀ o, (w3.alloc o).cell? ⟨w.heap.size, 5, none⟩ = _ := fun o => cellB (hb3.alloc hb3.size o) (j := 5) rfl
             have g6 : ∀ o, (w3.alloc o).cell? ⟨w.heap.size, 6, none⟩ = _ := fun o => cellB (hb3.alloc hb3.size o) (j := 6) rfl
             have g7 : ∀ o, (w3.alloc o).cell? ⟨w.heap.size, 7, none⟩ = _ := fun o => cellB (hb3.alloc hb3.size o) (j := 7) rfl
             have g8 : ∀ o, (w3.alloc o).cell? ⟨w.heap.size, 8, none⟩ = _ := fun o => cellB (hb3.alloc hb3.size o) (j := 8) rfl
            ))
        go_ret
        exact ⟨rfl, (((Below.refl w.heap.size w).alloc (Nat.le_refl _) _).trans (hb3.mono (by simp))).alloc (by have := hb3.size; simp at this; omega) _⟩
  · try simp only [List.getElem_toArray, List.getElem_cons_zero, List.getElem_cons_succ]
    go_simp
    refine hK _ _ ⟨⟨fun _ => by go_simp, trivial⟩, ?_⟩
    clear hK K
    refine stepQ 0 rfl (by kernel_rfl) (by decide) (by kernel_rfl) fun K hK => ?_
    simp only [List.getElem_toArray, List.getElem_cons_zero, List.getElem_cons_succ]
    go_simp
    refine (CK.out _).mono ?_
    rintro e w1 ⟨rfl, hm, hb⟩
    replace hb := undrew hb
    have hbr := below_pop hb
    have k0 := cellB hb (j := 0) rfl
    have k1 := cellB hb (j := 1) rfl
    have k2 := cellB hb (j := 2) rfl
    have k3 := cellB hb (j := 3) rfl
    have k4 := cellB hb (j := 4) rfl
    replace hm : w1.heap[w.heap.size + 2]? = some (.map kindsE 5) := by simpa using hm
    have HL := run_lookup_at (P := Tryz.prog) 189 30 187 .i64 Tryz.underlying189 Tryz.underlying30 _ _ kindsE 5 hm 3 _ 2 rfl true
    simp only [kindV] at HL
    refine hK _ _ ⟨⟨fun _ => cellB hbr (j := 0) rfl, trivial⟩, ?_⟩
    clear hK K
    refine stepQ 3 rfl (by kernel_rfl) (by decide) (by kernel_rfl) fun K hK => ?_
    simp only [List.getElem_toArray, List.getElem_cons_zero, List.getElem_cons_succ]
    go_simp
    refine hK _ _ ⟨⟨fun _ => cellB hbr (j := 0) rfl, trivial⟩, ?_⟩
    clear hK K
    refine takeQ 4 rfl (by kernel_rfl) rfl (by kernel_rfl) fun K hK => ?_
    simp only [List.getElem_toArray, List.getElem_cons_zero, List.getElem_cons_succ]
    go_big_quiet_op
    refine hK _ ?_
    clear hK K
    refine takeQ 5 rfl (by kernel_rfl) rfl (by kernel_rfl) fun K hK => ?_
    simp only [List.getElem_toArray, List.getElem_cons_zero, List.getElem_cons_succ]
    go_big_quiet_op
    refine hK _ ?_
    clear hK K
    refine takeQ 6 rfl (by kernel_rfl) rfl (by kernel_rfl) fun K hK => ?_
    simp only [List.getElem_toArray, List.getElem_cons_zero, List.getElem_cons_succ]
    go_big_quiet_op
    refine hK _ ?_
    clear hK K
    refine stepQ 8 rfl (by kernel_rfl) (by decide) (by kernel_rfl) fun K hK => ?_
    simp only [List.getElem_toArray, List.getElem_cons_zero, List.getElem_cons_succ]
    have z0 := frozenB hb 0
    have z1 := frozenB hb 1
    have z2 := frozenB hb 2
    have z3 := frozenB hb 3
    have z4 := frozenB hb 4
    simp only [World.size_alloc] at k0 k1 k2 k3 k4 z0 z1 z2 z3 z4
    go_simp
    have hbs := fun v0 v1 v2 v3 v4 => (((((hbr.setCell (p := ⟨w.heap.size + 1, 0, none⟩) (by simp) v0).setCell (p := ⟨w.heap.size + 1, 1, none⟩) (by simp) v1).setCell (p := ⟨w.heap.size + 1, 2, none⟩) (by simp) v2).setCell (p := ⟨w.heap.size + 1, 3, none⟩) (by simp) v3).setCell (p := ⟨w.heap.size + 1, 4, none⟩) (by simp) v4)
    refine hK _ _ ⟨⟨fun _ => cellB (hbs _ _ _ _ _) (j := 0) rfl, trivial⟩, ?_⟩
    clear hK K
    refine atR_gen (fun w' => Below (w.alloc (.cells #[.int .i64 3, .string ⟨client.toArray⟩, .int .i64 seq, .int .i64 id, .string ⟨topic.toArray⟩, .string ⟨body.toArray⟩, .int .i64 qos, .bool retain, .int .i64 stage] 33)).heap.size (w.alloc (.cells #[.int .i64 3, .string ⟨client.toArray⟩, .int .i64 seq, .int .i64 id, .string ⟨topic.toArray⟩, .string ⟨body.toArray⟩, .int .i64 qos, .bool retain, .int .i64 stage] 33)) w' ∧ w'.cell? ⟨w.heap.size + 1, 1, none⟩ = some (.func (.func 159) #[] #[]) ∧ w'.cell? ⟨w.heap.size + 1, 2, none⟩ = some (.func (.func 160) #[] #[]) ∧ w.heap.size + 1 < w'.heap.size) ⟨hbs _ _ _ _ _, by go_simp, by go_simp, by have := hb.size; simp at this ⊢; omega⟩ fun w2 ⟨hb, f1, f2, hlt⟩ => ?_
    refine stepQ 9 rfl (by kernel_rfl) (by decide) (by kernel_rfl) fun K hK => ?_
    simp only [List.getElem_toArray, List.getElem_cons_zero, List.getElem_cons_succ]
    go_simp
    refine hK _ _ ⟨⟨fun _ => cellB hb (j := 0) rfl, trivial⟩, ?_⟩
    clear hK K
    refine doneQ (by kernel_rfl) (hKQ.out _ _ ?_)
    clear hKQ KQ
    have g0 : w2.cell? ⟨w.heap.size, 0, none⟩ = _ := cellB hb (j := 0) rfl
    have g1 : w2.cell? ⟨w.heap.size, 1, none⟩ = _ := cellB hb (j := 1) rfl
    have g2 : w2.cell? ⟨w.heap.size, 2, none⟩ = _ := cellB hb (j := 2) rfl
    have g3 : w2.cell? ⟨w.heap.size, 3, none⟩ = _ := cellB hb (j := 3) rfl
    have g4 : w2.cell? ⟨w.heap.size, 4, none⟩ = _ := cellB hb (j := 4) rfl
    have g5 : w2.cell? ⟨w.heap.size, 5, none⟩ = _ := cellB hb (j := 5) rfl
    have g6 : w2.cell? ⟨w.heap.size, 6, none⟩ = _ := cellB hb (j := 6) rfl
    have g7 : w2.cell? ⟨w.heap.size, 7, none⟩ = _ := cellB hb (j := 7) rfl
    have g8 : w2.cell? ⟨w.heap.size, 8, none⟩ = _ := cellB hb (j := 8) rfl
    cases bm
    · go_wp2_with (go_at_call 159; refine (C7.out _).mono ?_; rintro e w3 ⟨rfl, hb2⟩; replace hb2 := hb.trans (hb2.mono hb.size))
      go_ret
      exact ⟨rfl, below_pop hb2⟩
    · go_wp2_with (first
        | (go_at_call 159; refine (C7.out _).mono ?_; rintro e w3 ⟨rfl, hb3⟩; have f3 := (hb3.cell (p := ⟨w.heap.size + 1, 2, none⟩) hlt).trans f2; replace hb3 := hb.trans (hb3.mono hb.size)
           have g0 : w3.cell? ⟨w.heap.size, 0, none⟩ = _ := cellB hb3 (j := 0) rfl
           have g1 : w3.cell? ⟨w.heap.size, 1, none⟩ = _ := cellB hb3 (j := 1) rfl
           have g2 : w3.cell? ⟨w.heap.size, 2, none⟩ = _ := cellB hb3 (j := 2) rfl
           have g3 : w3.cell? ⟨w.heap.size, 3, none⟩ = _ := cellB hb3 (j := 3) rfl
           have g4 : w3.cell? ⟨w.heap.size, 4, none⟩ = _ := cellB hb3 (j := 4) rfl
           have g5 : w3.cell? ⟨w.heap.size, 5, none⟩ = _ := cellB hb3 (j := 5) rfl
           have g6 : w3.cell? ⟨w.heap.size, 6, none⟩ = _ := cellB hb3 (j := 6) rfl
           have g7 : w3.cell? ⟨w.heap.size, 7, none⟩ = _ := cellB hb3 (j := 7) rfl
           have g8 : w3.cell? ⟨w.heap.size, 8, none⟩ = _ := cellB hb3 (j := 8) rfl
          )
        | (go_at_call 160; refine (C8.out _).mono ?_; rintro e w4 ⟨rfl, hb4⟩; replace hb4 := hb3.trans (hb4.mono hb3.size)
           have g0 : ∀ o, (w4.alloc o).cell? ⟨w.heap.size, 0, none⟩ = _ := fun o => cellB (hb4.alloc hb4.size o) (j := 0) rfl
           have g1 : ∀ o, (w4.alloc o).cell? ⟨w.heap.size, 1, none⟩ = _ := fun o => cellB (hb4.alloc hb4.size o) (j := 1) rfl
           have g2 : ∀ o, (w4.alloc o).cell? ⟨w.heap.size, 2, none⟩ = _ := fun o => cellB (hb4.alloc hb4.size o) (j := 2) rfl
           have g3 : ∀ o, (w4.alloc o).cell? ⟨w.heap.size, 3, none⟩ = _ := fun o => cellB (hb4.alloc hb4.size o) (j := 3) rfl
           have g4 : ∀ o, (w4.alloc o).cell? ⟨w.heap.size, 4, none⟩ = _ := fun o => cellB (hb4.alloc hb4.size o) (j := 4) rfl
           have g5 : ∀ o, (w4.alloc o).cell? ⟨w.heap.size, 5, none⟩ = _ := fun o => cellB (hb4.alloc hb4.size o) (j := 5) rfl
           have g6 : ∀ o, (w4.alloc o).cell? ⟨w.heap.size, 6, none⟩ = _ := fun o => cellB (hb4.alloc hb4.size o) (j := 6) rfl
           have g7 : ∀ o, (w4.alloc o).cell? ⟨w.heap.size, 7, none⟩ = _ := fun o => cellB (hb4.alloc hb4.size o) (j := 7) rfl
           have g8 : ∀ o, (w4.alloc o).cell? ⟨w.heap.size, 8, none⟩ = _ := fun o => cellB (hb4.alloc hb4.size o) (j := 8) rfl
          ))
      go_ret
      exact ⟨rfl, ((below_pop hb4).alloc (by have := (below_pop hb4).size; omega) _)⟩
end Go.Proofs.YtoinabapaeebfaaGreatDoor
namespace Go.Proofs.YtoinabapaeebfaaGreatDoor
open Go.RowKit Go.Shelf

/-- How many of the first n bits are set. -/
def popN : Nat → Nat → Nat
  | 0, _ => 0
  | n + 1, w => w % 2 + popN n (w / 2)

theorem popN_zero (n : Nat) : popN n 0 = 0 := by
  induction n with
  | zero => rfl
  | succ n ih => simp [popN, ih]
theorem and_half (a b : Nat) : (a &&& b) / 2 = a / 2 &&& b / 2 := by
  have := Nat.shiftRight_and_distrib (a := a) (b := b) (i := 1)
  simpa [Nat.shiftRight_succ] using this
theorem xor_half (a b : Nat) : (a ^^^ b) / 2 = a / 2 ^^^ b / 2 := by
  have := Nat.shiftRight_xor_distrib (a := a) (b := b) (i := 1)
  simpa [Nat.shiftRight_succ] using this
theorem and_low (a b : Nat) : (a &&& b) % 2 = a % 2 &&& b % 2 := by
  have := Nat.and_mod_two_pow (a := a) (b := b) (n := 1)
  simpa using this
theorem xor_low (a b : Nat) : (a ^^^ b) % 2 = a % 2 ^^^ b % 2 := by
  have := Nat.xor_mod_two_pow (a := a) (b := b) (n := 1)
  simpa using this
/-- Without its lowest bit it has one less. -/
theorem popN_and (n w : Nat) (h0 : w ≠ 0) (h : w < 2 ^ n) : popN n (w &&& (w - 1)) + 1 = popN n w := by
  induction n generalizing w with
  | zero => simp at h; omega
  | succ n ih =>
    simp only [popN]
    rw [and_low, and_half]
    rcases Nat.mod_two_eq_zero_or_one w with h1 | h1
    · have hk : w / 2 ≠ 0 := by omega
      have e1 : (w - 1) / 2 = w / 2 - 1 := by omega
      have := ih (w / 2) hk (by omega)
      rw [h1, e1]
      simp
      omega
    · have e1 : (w - 1) / 2 = w / 2 := by omega
      have e2 : (w - 1) % 2 = 0 := by omega
      rw [h1, e1, e2, Nat.and_self]
      simp
      omega
theorem popN_xor (n w k : Nat) (hk : k < n) : (w.testBit k = true → popN n (w ^^^ 2 ^ k) + 1 = popN n w) ∧ (w.testBit k = false → popN n (w ^^^ 2 ^ k) = popN n w + 1) := by
  induction n generalizing w k with
  | zero => omega
  | succ n ih =>
    simp only [popN]
    rw [xor_low, xor_half]
    cases k with
    | zero =>
      simp only [Nat.pow_zero, Nat.testBit_zero, decide_eq_true_eq, decide_eq_false_iff_not]
      have : (1 / 2 : Nat) = 0 := rfl
      rw [this, Nat.xor_zero]
      rcases Nat.mod_two_eq_zero_or_one w with h1 | h1 <;> rw [h1] <;> simp <;> omega
    | succ k =>
      have e1 : 2 ^ (k + 1) / 2 = 2 ^ k := by omega
      have e2 : 2 ^ (k + 1) % 2 = 0 := by omega
      rw [e1, e2, Nat.xor_zero]
      have := ih (w / 2) k (by omega)
      rw [Nat.testBit_succ]
      constructor
      · intro h; have := this.1 h; omega
      · intro h; have := this.2 h; omega

/-- How many bits the first n words have. -/
def tot : Nat → (Nat → Nat) → Nat
  | 0, _ => 0
  | n + 1, W => tot n W + popN 64 (W n)
def tog (W : Nat → Nat) (n : Nat) : Nat → Nat := fun i => if i = n / 64 then W i ^^^ 2 ^ (n % 64) else W i
theorem tot_other (W : Nat → Nat) (n m : Nat) (h : m ≤ n / 64) : tot m (tog W n) = tot m W := by
  induction m with
  | zero => rfl
  | succ m ih =>
    have : m ≠ n / 64 := by omega
    simp [tot, ih (by omega), tog, this]
theorem tot_tog (W : Nat → Nat) (n m : Nat) (h : n / 64 < m) : ((W (n / 64)).testBit (n % 64) = true → tot m (tog W n) + 1 = tot m W) ∧ ((W (n / 64)).testBit (n % 64) = false → tot m (tog W n) = tot m W + 1) := by
  have hk : n % 64 < 64 := Nat.mod_lt _ (by decide)
  have hp := popN_xor 64 (W (n / 64)) (n % 64) hk
  induction m with
  | zero => omega
  | succ m ih =>
    simp only [tot]
    rcases Nat.lt_or_ge (n / 64) m with h1 | h1
    · have h2 := ih h1
      have h3 : m ≠ n / 64 := by omega
      have h4 : tog W n m = W m := by simp [tog, h3]
      rw [h4]
      constructor
      · intro h; have := h2.1 h; omega
      · intro h; have := h2.2 h; omega
    · have h3 : m = n / 64 := by omega
      have h4 : tog W n m = W m ^^^ 2 ^ (n % 64) := by simp [tog, h3]
      rw [h4, tot_other W n m (by omega)]
      subst h3
      constructor
      · intro h; have := hp.1 h; omega
      · intro h; have := hp.2 h; omega

/-- The words have just these numbers. -/
structure SetIs (W : Nat → Nat) (ids : List Nat) : Prop where
  lt : ∀ i, W i < 18446744073709551616
  has : ∀ n, n < 65536 → (W (n / 64)).testBit (n % 64) = decide (n ∈ ids)
  tot : tot 1024 W = ids.length

theorem tot_le (W : Nat → Nat) (m : Nat) : tot m W ≤ 64 * m := by
  have hp : ∀ n x, popN n x ≤ n := by
    intro n
    induction n with
    | zero => intro x; simp [popN]
    | succ n ih => intro x; have := ih (x / 2); simp only [popN]; omega
  induction m with
  | zero => simp [tot]
  | succ m ih => have := hp 64 (W m); simp only [tot]; omega
theorem tot_zero (m : Nat) : tot m (fun _ => 0) = 0 := by
  induction m with
  | zero => rfl
  | succ m ih => simp [YtoinabapaeebfaaGreatDoor.tot, ih, popN_zero]
theorem SetIs.nil : SetIs (fun _ => 0) [] := ⟨fun _ => by decide, fun n _ => by simp, by simp [tot_zero]⟩
theorem SetIs.perm {W : Nat → Nat} {l l' : List Nat} (h : SetIs W l) (p : l.Perm l') : SetIs W l' :=
  ⟨h.lt, fun n hn => by rw [h.has n hn]; simp [p.mem_iff], by rw [h.tot, p.length_eq]⟩
theorem tog_lt {W : Nat → Nat} (h : ∀ i, W i < 18446744073709551616) (n : Nat) : ∀ i, tog W n i < 18446744073709551616 := by
  intro i
  unfold tog
  have hk : n % 64 < 64 := Nat.mod_lt _ (by decide)
  split
  · exact Nat.xor_lt_two_pow (n := 64) (h i) (Nat.pow_lt_pow_right (by decide) hk)
  · exact h i
theorem tog_bit (W : Nat → Nat) (n m : Nat) : (tog W n (m / 64)).testBit (m % 64) = ((W (m / 64)).testBit (m % 64) ^^ decide (m = n)) := by
  unfold tog
  by_cases h : m / 64 = n / 64
  · rw [if_pos h, Nat.testBit_xor, Nat.testBit_two_pow]
    have : (n % 64 = m % 64) = (m = n) := by
      apply propext
      constructor
      · intro h2; omega
      · intro h2; rw [h2]
    simp [this]
  · rw [if_neg h]
    have : m ≠ n := fun e => h (by rw [e])
    simp [this]
theorem SetIs.come {W : Nat → Nat} {l : List Nat} (h : SetIs W l) {n : Nat} (hn : n < 65536) (hnot : n ∉ l) : SetIs (tog W n) (n :: l) := by
  have hb : (W (n / 64)).testBit (n % 64) = false := by rw [h.has n hn]; simp [hnot]
  refine ⟨tog_lt h.lt n, fun m hm => ?_, ?_⟩
  · rw [tog_bit, h.has m hm]
    by_cases e : m = n
    · subst e; simp [hnot]
    · simp [e]
  · rw [(tot_tog W n 1024 (by omega)).2 hb, h.tot]; rfl
theorem SetIs.go {W : Nat → Nat} {l : List Nat} (h : SetIs W l) {n : Nat} (hn : n < 65536) (hin : n ∈ l) (hd : l.Nodup) : SetIs (tog W n) (l.erase n) := by
  have hb : (W (n / 64)).testBit (n % 64) = true := by rw [h.has n hn]; simp [hin]
  refine ⟨tog_lt h.lt n, fun m hm => ?_, ?_⟩
  · rw [tog_bit, h.has m hm]
    by_cases e : m = n
    · subst e; simp [hin, hd.not_mem_erase]
    · simp [e, List.mem_erase_of_ne e]
  · have := (tot_tog W n 1024 (by omega)).1 hb
    rw [List.length_erase_of_mem hin]
    rw [h.tot] at this
    have := List.length_pos_of_mem hin
    omega
theorem SetIs.le {W : Nat → Nat} {l : List Nat} (h : SetIs W l) (i : Nat) : (W i : Int) < 18446744073709551616 := by have := h.lt i; omega

def setCells (W : Nat → Nat) : Array Value := Array.ofFn fun i : Fin 1024 => .int .u64 (W i)
theorem setCells_get (W : Nat → Nat) (i : Nat) (h : i < 1024) : (setCells W)[i]? = some (.int .u64 (W i)) := by simp [setCells, h]
theorem setCells_size (W : Nat → Nat) : (setCells W).size = 1024 := by simp [setCells]
theorem setCells_tog (W : Nat → Nat) (n : Nat) : (setCells W).setIfInBounds (n / 64) (.int .u64 ((W (n / 64) ^^^ 2 ^ (n % 64) : Nat) : Int)) = setCells (tog W n) := by
  apply Array.ext_getElem?
  intro i
  rw [Array.getElem?_setIfInBounds, setCells_size]
  by_cases e : n / 64 = i
  · subst e
    by_cases h : n / 64 < 1024
    · simp [setCells_get _ _ h, tog, h]
    · simp [setCells, h]
  · have e' : ¬ i = n / 64 := fun h => e h.symm
    simp only [e, if_false]
    by_cases h : i < 1024
    · simp [setCells_get _ _ h, tog, e']
    · simp [setCells, h]
theorem setCells_zero : setCells (fun _ => 0) = Array.replicate 1024 (.int .u64 0) := by
  apply Array.ext
  · simp [setCells]
  · intro i h1 h2
    simp [setCells]


def nxt (z : Int) : Int := z % 65535 + 1
def firstI : Nat → Int → List Nat → Int
  | 0, z, _ => z
  | k + 1, z, ids => if z.toNat ∈ ids then firstI k (nxt z) ids else z
theorem nxt_range (z : Int) : 1 ≤ nxt z ∧ nxt z ≤ 65535 := by
  have q3 : 0 ≤ z % 65535 := Int.emod_nonneg _ (by omega)
  have q4 : z % 65535 < 65535 := Int.emod_lt_of_pos _ (by omega)
  unfold nxt; omega
theorem firstI_range (k : Nat) (z : Int) (ids : List Nat) (h : 1 ≤ z ∧ z ≤ 65535) : 1 ≤ firstI k z ids ∧ firstI k z ids ≤ 65535 := by
  induction k generalizing z with
  | zero => exact h
  | succ k ih =>
    unfold firstI
    split
    · exact ih _ (nxt_range z)
    · exact h
def itN : Nat → Int → Int
  | 0, z => z
  | k + 1, z => itN k (nxt z)
theorem itN_eq (k : Nat) (z : Int) (h : 1 ≤ z ∧ z ≤ 65535) : itN k z = (z - 1 + k) % 65535 + 1 := by
  induction k generalizing z with
  | zero => unfold itN; omega
  | succ k ih =>
    unfold itN
    rw [ih _ (nxt_range z)]
    unfold nxt
    omega
theorem firstI_in (n : Nat) (z : Int) (ids : List Nat) (h : (firstI n z ids).toNat ∈ ids) : ∀ k, k ≤ n → (itN k z).toNat ∈ ids := by
  induction n generalizing z with
  | zero =>
    intro k hk
    obtain rfl : k = 0 := by omega
    exact h
  | succ n ih =>
    unfold firstI at h
    split at h
    · rename_i hz
      intro k hk
      cases k with
      | zero => exact hz
      | succ k => exact ih _ h k (by omega)
    · rename_i hz; exact absurd h hz
theorem pigeon (l ids : List Nat) (hd : l.Nodup) (hs : ∀ x ∈ l, x ∈ ids) : l.length ≤ ids.length := by
  induction l generalizing ids with
  | nil => simp
  | cons x l ih =>
    have h1 := hs x (by simp)
    have h2 := ih (ids.erase x) (List.nodup_cons.1 hd).2 (fun y hy => (List.mem_erase_of_ne (fun e => (List.nodup_cons.1 hd).1 (by subst e; exact hy))).2 (hs y (by simp [hy])))
    rw [List.length_erase_of_mem h1] at h2
    have := List.length_pos_of_mem h1
    simp; omega
theorem firstI_free (z : Int) (ids : List Nat) (h : 1 ≤ z ∧ z ≤ 65535) (hl : ids.length < 65535) : (firstI ids.length z ids).toNat ∉ ids := by
  intro hin
  have h1 := firstI_in _ _ _ hin
  have h2 := pigeon ((List.range (ids.length + 1)).map fun k => (itN k z).toNat) ids ?_ ?_
  · simp at h2
    omega
  · rw [List.nodup_iff_pairwise_ne, List.pairwise_map]
    refine List.Pairwise.imp_of_mem ?_ (List.nodup_iff_pairwise_ne.1 List.nodup_range)
    intro a b ha hb hab he
    simp at ha hb
    rw [itN_eq _ _ h, itN_eq _ _ h] at he
    omega
  · intro x hx
    simp at hx
    obtain ⟨k, hk, rfl⟩ := hx
    exact h1 k (by omega)
end Go.Proofs.YtoinabapaeebfaaGreatDoor
namespace Go.Proofs.YtoinabapaeebfaaGreatDoor
open Go.RowKit Go.Shelf

def mayI (id : Int) : Bool := decide (1 ≤ id) && decide (id ≤ 65535)

set_option maxRecDepth 100000 in
set_option maxHeartbeats 400000 in
theorem in_may (id : Int) (w : World) :
    Calls Tryz.prog 110 #[.int .i64 id] w fun e w' => e = .returned (.bool (mayI id)) ∧ w = w' := by
  by_cases h : 1 ≤ id
  · go_enter Tryz.func110, Tryz.ntmps110
    go_wp2
    go_ret
    simp [h, mayI]
  · have d : decide (1 ≤ id) = false := decide_eq_false h
    go_enter Tryz.func110, Tryz.ntmps110
    go_wp2
    go_ret
    simp [d, mayI]

/-- An inbox lies at block b: its set at block s, its bound. -/
structure InAt (w : World) (b s : Nat) (most : Int) : Prop where
  set : w.cell? ⟨b, 0, none⟩ = some (.pointer (some ⟨s, 0, none⟩))
  most : w.cell? ⟨b, 1, none⟩ = some (.int .i64 most)

set_option maxRecDepth 100000 in
set_option maxHeartbeats 400000 in
theorem in_none (w : World) (b s : Nat) (most : Int) (h : InAt w b s most) :
    Calls Tryz.prog 109 #[.pointer (some ⟨b, 0, none⟩)] w fun e w' => e = .returned (.bool false) ∧ w = w' := by
  have h0 := h.set
  go_enter Tryz.func109, Tryz.ntmps109
  go_wp2
  go_ret
  simp


/-- Block b holds just these cells. -/
def Blk (w : World) (b : Nat) (cs : Array Value) (T : TypeId) : Prop := w.heap[b]? = some (.cells cs T (0, 0))

section
variable {w : World} {b : Nat} {cs : Array Value} {T : TypeId}
theorem Blk.lt (h : Blk w b cs T) : b < w.heap.size := (Array.getElem?_eq_some_iff.1 h).1
theorem Blk.cell (h : Blk w b cs T) (j : Nat) : w.cell? ⟨b, j, none⟩ = cs[j]? := by
  unfold Blk at h
  simp [World.cell?, h]
theorem Blk.frozen (h : Blk w b cs T) (j : Nat) : w.frozen? ⟨b, j, none⟩ = false := by
  unfold Blk at h
  simp [World.frozen?, h]
theorem Blk.keep {w' : World} (h : Blk w b cs T) (hk : w'.heap[b]? = w.heap[b]?) : Blk w' b cs T := hk.trans h
theorem Blk.alloc (h : Blk w b cs T) (o : Obj) : Blk (w.alloc o) b cs T := h.keep (Below.heap_alloc _ _ _ h.lt)
theorem Blk.drew (h : Blk w b cs T) : Blk w.drew b cs T := h
theorem Blk.new (w : World) (cs : Array Value) (T : TypeId) : Blk (w.alloc (.cells cs T)) w.heap.size cs T := World.alloc_heap_new w _
theorem Blk.set (h : Blk w b cs T) (j : Nat) (v : Value) : Blk (w.setCell ⟨b, j, none⟩ v) b (cs.setIfInBounds j v) T := by
  have := h.lt
  unfold Blk at h ⊢
  simp [World.setCell, Array.getElem?_modify, h]
theorem Blk.set_ne (h : Blk w b cs T) (p : Addr) (hp : p.block ≠ b) (v : Value) : Blk (w.setCell p v) b cs T := h.keep (Below.heap_setCell _ _ _ _ (Ne.symm hp))
theorem Blk.putObj (h : Blk w b cs T) (l : Nat) (hl : l ≠ b) (o : Obj) : Blk (w.putObj l o) b cs T := h.keep (World.putObj_heap_other (Ne.symm hl))
theorem Blk.wrote {M : List Nat} {w' : World} (h : Blk w b cs T) (hw : Wrote M w w') (hb : b ∉ M) : Blk w' b cs T := h.keep (hw.block b h.lt hb)
theorem Blk.below {w' : World} (h : Blk w b cs T) (hw : Below w.heap.size w w') : Blk w' b cs T := h.keep (hw.block b h.lt)
theorem Blk.ne {b' : Nat} {cs' : Array Value} {T' : TypeId} (h : Blk w b cs T) (h' : Blk w b' cs' T') (ht : T ≠ T') : b ≠ b' := by
  intro e; subst e; unfold Blk at h h'; rw [h] at h'; cases h'; exact ht rfl
end

/-- An inbox at block b, its set at block s. -/
structure Inb (w : World) (b s : Nat) (most : Int) (W : Nat → Nat) : Prop where
  box : Blk w b #[.pointer (some ⟨s, 0, none⟩), .int .i64 most] 183
  set : Blk w s (setCells W) 181
theorem Inb.at {w : World} {b s : Nat} {most : Int} {W : Nat → Nat} (h : Inb w b s most W) : InAt w b s most := ⟨(h.box.cell 0).trans rfl, (h.box.cell 1).trans rfl⟩
theorem Inb.wrote {w w' : World} {b s : Nat} {most : Int} {W : Nat → Nat} (h : Inb w b s most W) {M : List Nat} (hw : Wrote M w w') (hb : b ∉ M) (hs : s ∉ M) : Inb w' b s most W := ⟨h.box.wrote hw hb, h.set.wrote hw hs⟩

set_option maxRecDepth 100000 in
set_option maxHeartbeats 400000 in
theorem in_New (most : Int) (w : World) (h1 : 1 ≤ most) (h2 : most ≤ 1000) :
    Calls Tryz.prog 52 #[.int .i64 most] w fun e w' => e = .returned (.tuple #[.pointer (some ⟨w.heap.size + 1, 0, none⟩), .int .i64 0]) ∧ Inb w' (w.heap.size + 1) w.heap.size most (fun _ => 0) ∧ Below w.heap.size w w' := by
  have d1 : decide (most < 1) = false := decide_eq_false (by omega)
  have d2 : decide (most > 1000) = false := decide_eq_false (by omega)
  go_enter Tryz.func52, Tryz.ntmps52
  go_wp2
  go_returns
  have hz : Tryz.zeroCells181 = setCells (fun _ => 0) := by rw [setCells_zero]; kernel_rfl
  rw [hz]
  exact ⟨rfl, ⟨by simpa using Blk.new (w.alloc _) _ _, (Blk.new w _ _).alloc _⟩, ((Below.refl _ w).alloc (Nat.le_refl _) _).alloc (by simp) _⟩
end Go.Proofs.YtoinabapaeebfaaGreatDoor
namespace Go.Proofs.YtoinabapaeebfaaGreatDoor
open Go.RowKit Go.Shelf
def tzRen : Go.Shelf.Ren := ⟨fun | 29 => 191 | n => n, fun | 0 => 0 | 3 => 3 | 4 => 4 | 5 => 5 | 22 => 179 | 25 => 194 | 54 => 287 | n => n, fun | 1 => 1 | n => n⟩
theorem tzLays : Go.Proofs.Lays7.n29 Tryz.prog tzRen := {
  mixed := by kernel_rfl
  f29 := Tryz.func191.trans (congrArg some (by kernel_rfl))
  t0 := Tryz.underlying0
  a0 := Tryz.isAgg0
  z0 := Tryz.sizeOf0
  v0 := Tryz.zeroValue0
  i0 := by kernel_rfl
  t3 := Tryz.underlying3
  a3 := Tryz.isAgg3
  z3 := Tryz.sizeOf3
  v3 := Tryz.zeroValue3
  i3 := by kernel_rfl
  t4 := Tryz.underlying4
  a4 := Tryz.isAgg4
  z4 := Tryz.sizeOf4
  v4 := Tryz.zeroValue4
  i4 := by kernel_rfl
  t5 := Tryz.underlying5
  a5 := Tryz.isAgg5
  z5 := Tryz.sizeOf5
  v5 := Tryz.zeroValue5
  i5 := by kernel_rfl
  t22 := Tryz.underlying179
  a22 := Tryz.isAgg179
  z22 := Tryz.sizeOf179
  v22 := Tryz.zeroValue179
  i22 := by kernel_rfl
  t25 := Tryz.underlying194
  a25 := Tryz.isAgg194
  z25 := Tryz.sizeOf194
  v25 := Tryz.zeroValue194
  i25 := by kernel_rfl
  t54 := Tryz.underlying287
  a54 := Tryz.isAgg287
  z54 := Tryz.sizeOf287
  g1 := by kernel_rfl }
/-- The table lies in its variable. -/
def TzAt (w : World) : Prop := TabAt 1 Lib.deBruijn64tab w
theorem TzAt.keep {w w' : World} (h : TzAt w) (hk : ∀ p v, p.block = 1 → w.cell? p = some v → w'.cell? p = some v) : TzAt w' := fun j hj => hk _ _ rfl (h j hj)
theorem tz64 (x : Nat) (hx : x < 18446744073709551616) (w : World) (hT : TzAt w) :
    Calls Tryz.prog 191 #[.int .u64 x] w fun e w' => e = .returned (.int .i64 (Lib.ctz 64 x)) ∧ w' = w :=
  Any7.bits_TrailingZeros64 tzLays x hx w (fun _ => hT)
end Go.Proofs.YtoinabapaeebfaaGreatDoor
namespace Go.Proofs.YtoinabapaeebfaaGreatDoor
open Go.RowKit Go.Shelf

theorem pow_wrap (k : Nat) (h : k < 64) : IntKind.u64.wrap (2 ^ k) = 2 ^ k := by
  have : (2 : Nat) ^ k < 2 ^ 64 := Nat.pow_lt_pow_right (by decide) h
  have h2 : ((2 : Int) ^ k) = ((2 ^ k : Nat) : Int) := by simp
  rw [h2]
  generalize 2 ^ k = m at *
  simp only [IntKind.wrap_u64]
  omega

theorem pow_cast (k : Nat) : ((2 : Int) ^ k) = ((2 ^ k : Nat) : Int) := by simp
theorem bit_and (x k : Nat) (h : k < 64) (hx : x < 18446744073709551616) : decide (0 < bits BinOp.and IntKind.u64 (x : Int) (2 ^ k)) = x.testBit k := by
  have h2 : (2 : Nat) ^ k < 2 ^ 64 := Nat.pow_lt_pow_right (by decide) h
  rw [pow_cast, bits_and_u64_nat x _ hx h2]
  cases ht : x.testBit k with
  | false =>
    have : x &&& 2 ^ k = 0 := Nat.eq_of_testBit_eq fun j => by
      rw [Nat.testBit_and, Nat.testBit_two_pow, Nat.zero_testBit]
      by_cases e : k = j
      · subst e; simp [ht]
      · simp [e]
    rw [this]; rfl
  | true =>
    have h3 : (x &&& 2 ^ k).testBit k = true := by simp [Nat.testBit_and, Nat.testBit_two_pow, ht]
    have h4 : 0 < x &&& 2 ^ k := Nat.pos_of_ne_zero fun e => by rw [e] at h3; simp at h3
    have h5 : (0 : Int) < ((x &&& 2 ^ k : Nat) : Int) := by omega
    exact decide_eq_true h5
theorem bit_xor (x k : Nat) (h : k < 64) (hx : x < 18446744073709551616) : bits BinOp.xor IntKind.u64 (x : Int) (2 ^ k) = ((x ^^^ 2 ^ k : Nat) : Int) := by
  have h2 : (2 : Nat) ^ k < 2 ^ 64 := Nat.pow_lt_pow_right (by decide) h
  rw [pow_cast, bits_xor_u64_nat x _ hx h2]

set_option maxRecDepth 100000 in
set_option maxHeartbeats 400000 in
theorem in_at (s : Nat) (z : Int) (w : World) (h0 : 1 ≤ z) (h1 : z ≤ 65535) :
    Calls Tryz.prog 169 #[.pointer (some ⟨s, 0, none⟩), .int .i64 z] w fun e w' => e = .returned (.tuple #[.pointer (some ⟨s, (z / 64).toNat, none⟩), .int .u64 (2 ^ (z % 64).toNat)]) ∧ Below w.heap.size w w' := by
  have q1 : z.tdiv 64 = z / 64 := by rw [Int.tdiv_eq_ediv_of_nonneg (by omega)]
  have q2 : z.tmod 64 = z % 64 := by rw [Int.tmod_eq_emod_of_nonneg (by omega)]
  have hp : (z % 64).toNat < 64 := by omega
  go_enter Tryz.func169, Tryz.ntmps169
  go_wp2
  go_region
  go_wp2
  go_returns
  rw [pow_wrap _ hp]
  exact ⟨rfl, (Below.refl _ w).drew⟩

set_option maxRecDepth 100000 in
set_option maxHeartbeats 400000 in
theorem in_Has (b s : Nat) (most : Int) (W : Nat → Nat) (ids : List Nat) (z : Int) (w : World) (hI : Inb w b s most W) (hS : SetIs W ids) (h0 : 1 ≤ z) (h1 : z ≤ 65535) :
    Calls Tryz.prog 111 #[.pointer (some ⟨b, 0, none⟩), .int .i64 z] w fun e w' => e = .returned (.bool (decide (z.toNat ∈ ids))) ∧ Below w.heap.size w w' := by
  have CN := in_none w b s most hI.at
  have CM := in_may z w
  have CA := in_at s z w h0 h1
  have hm : mayI z = true := by simp [mayI, h0, h1]
  rw [hm] at CM
  have k0 := hI.at.set
  obtain ⟨i, hi⟩ : ∃ i, (z / 64).toNat = i := ⟨_, rfl⟩
  obtain ⟨u, hu⟩ : ∃ u : Int, 2 ^ (z % 64).toNat = u := ⟨_, rfl⟩
  obtain ⟨x, hx⟩ : ∃ x : Int, (W i : Int) = x := ⟨_, rfl⟩
  have kc : w.cell? ⟨s, i, none⟩ = some (.int .u64 x) := by rw [hI.set.cell, setCells_get _ _ (by omega), hx]
  rw [hi, hu] at CA
  go_enter Tryz.func111, Tryz.ntmps111
  go_wp2_with (first
    | (go_at_call 109; refine CN.mono ?_; rintro e w1 ⟨rfl, rfl⟩)
    | (go_at_call 110; refine CM.mono ?_; rintro e w1 ⟨rfl, rfl⟩)
    | (go_at_call 169; refine CA.mono ?_; rintro e w1 ⟨rfl, hb⟩; have kc1 := (hb.cell (p := ⟨s, i, none⟩) hI.set.lt).trans kc))
  go_ret
  refine ⟨?_, hb⟩
  subst hx hu
  have hp : (z % 64).toNat < 64 := by omega
  rw [bit_and _ _ hp (hS.lt i)]
  have := hS.has z.toNat (by omega)
  rw [show z.toNat / 64 = i by omega, show z.toNat % 64 = (z % 64).toNat by omega] at this
  rw [this]
  rfl

set_option maxRecDepth 100000 in
set_option maxHeartbeats 400000 in
theorem in_turn (b s : Nat) (most : Int) (W : Nat → Nat) (z : Int) (w : World) (hI : Inb w b s most W) (hW : ∀ i, W i < 18446744073709551616) (h0 : 1 ≤ z) (h1 : z ≤ 65535) :
    Calls Tryz.prog 113 #[.pointer (some ⟨b, 0, none⟩), .int .i64 z] w fun e w' => e = .returned (.tuple #[]) ∧ Inb w' b s most (tog W z.toNat) ∧ Wrote [s] w w' := by
  have CA := in_at s z w h0 h1
  have k0 := hI.at.set
  obtain ⟨i, hi⟩ : ∃ i, (z / 64).toNat = i := ⟨_, rfl⟩
  obtain ⟨u, hu⟩ : ∃ u : Int, 2 ^ (z % 64).toNat = u := ⟨_, rfl⟩
  obtain ⟨x, hx⟩ : ∃ x : Int, (W i : Int) = x := ⟨_, rfl⟩
  have kc : w.cell? ⟨s, i, none⟩ = some (.int .u64 x) := by rw [hI.set.cell, setCells_get _ _ (by omega), hx]
  rw [hi, hu] at CA
  go_enter Tryz.func113, Tryz.ntmps113
  go_wp2_with (go_at_call 169; refine CA.mono ?_; rintro e w1 ⟨rfl, hb⟩; have hs1 := hI.set.below hb; have kc1 := (hb.cell (p := ⟨s, i, none⟩) hI.set.lt).trans kc; have kf := hs1.frozen i)
  go_end0
  have hp : (z % 64).toNat < 64 := by omega
  refine ⟨rfl, ⟨(hI.box.below hb).set_ne _ (hI.set.ne hI.box (by decide)) _, ?_⟩, (Wrote.of_below hb).trans (Wrote.setCell w1 ⟨s, i, none⟩ (by simp) _)⟩
  have h3 := hs1.set i (.int .u64 (bits BinOp.xor IntKind.u64 x u))
  rw [← hx, ← hu, bit_xor _ _ hp (hW i), ← show z.toNat / 64 = i by omega, ← show z.toNat % 64 = (z % 64).toNat by omega, setCells_tog] at h3
  rw [← hx, ← hu, bit_xor _ _ hp (hW i), ← show z.toNat / 64 = i by omega, ← show z.toNat % 64 = (z % 64).toNat by omega]
  exact h3
end Go.Proofs.YtoinabapaeebfaaGreatDoor
namespace Go.Proofs.YtoinabapaeebfaaGreatDoor
open Go.RowKit Go.Shelf
attribute [local go_sem] Oper.semAt_some

def encI (x : Int) : Array Value := #[.int .i64 x]
theorem TzAt.block {w w' : World} (h : TzAt w) (hk : w'.heap[1]? = w.heap[1]?) : TzAt w' := by
  refine h.keep fun p v hp hc => ?_
  unfold World.cell? at hc ⊢
  rw [hp] at hc ⊢
  rw [hk]; exact hc
theorem TzAt.lt {w : World} (h : TzAt w) : 1 < w.heap.size := cell_lt (p := ⟨1, 0, none⟩) (h 0 (by decide))
theorem TzAt.below {w w' : World} (h : TzAt w) (hb : Below w.heap.size w w') : TzAt w' := h.block (hb.block _ h.lt)
theorem TzAt.wrote {M : List Nat} {w w' : World} (h : TzAt w) (hb : Wrote M w w') (hM : 1 ∉ M) : TzAt w' := h.block (hb.block _ h.lt hM)

set_option maxRecDepth 100000 in
set_option maxHeartbeats 400000 in
theorem in_each (s : Nat) (w : World) :
    Calls Tryz.prog 127 #[.pointer (some ⟨s, 0, none⟩)] w fun e w' => e = .returned (.func (.func 190) #[] #[.pointer (some ⟨w.heap.size, 0, none⟩)]) ∧ w.alloc (.cells #[.pointer (some ⟨s, 0, none⟩)] 178) = w' := by
  go_enter Tryz.func127, Tryz.ntmps127
  go_wp2
  go_ret
  exact ⟨rfl, rfl⟩

theorem popN_pos (n w : Nat) (h0 : w ≠ 0) (h : w < 2 ^ n) : 0 < popN n w := by have := popN_and n w h0 h; omega

set_option maxRecDepth 100000 in
set_option maxHeartbeats 1000000 in
theorem in_each1 (s : Nat) (W0 : Nat → Nat) (w : World) (B : Nat) (hs : Blk w s (setCells W0) 181) (hW0 : ∀ i, W0 i < 18446744073709551616) (hT : TzAt w) (hb : Boxed w B 178 (.pointer (some ⟨s, 0, none⟩))) :
    SeqG Tryz.prog 190 #[.pointer (some ⟨B, 0, none⟩)] encI (Keep 0 [B, s, 1]) (Wrote []) (fun pre _ _ => pre.length < 65536) (fun xs => xs.length = tot 1024 W0) (fun _ => True) w := by
  intro lb J Jx W hW hlb hJ hJx hY h0
  have hb := boxed_below hb hW
  have hs := hs.below hW
  have hT := hT.below hW
  refine callsIn_of_wp Tryz.func190 rfl trivial ?_ rfl
  simp only [Tryz.ntmps190, List.size_toArray, List.length_cons, List.length_nil, Nat.reduceAdd, Nat.reduceSub, Array.replicate_succ, Array.replicate_zero, List.push_toArray, List.append_toArray, List.nil_append, List.cons_append]
  have hc1 := hb.cell
  gi_wp2
  refine wpIn_wide.2 (wp_scope_straight ((wpIn_wide (n := 0)).1 ?_))
  refine wpIn_seq (wpIn_label ?_)
  simp only [go_sem]
  gi_wp2
  gi_loopw [3, 4, 6] (fun _ _ i wr => ∃ (pre : List Int) (k : Nat), i = .int .i64 k ∧ k ≤ 1024 ∧ Hid (pre.length = tot k W0) ∧ Boxed wr B 178 (.pointer (some ⟨s, 0, none⟩)) ∧ Blk wr s (setCells W0) 181 ∧ TzAt wr ∧ J pre wr)
    (fun _ _ i _ => 1024 - (intOf i).toNat)
  case atStart => exact ⟨[], 0, rfl, Nat.zero_le _, hid rfl, hb, hs, hT, h0⟩
  case round =>
    obtain ⟨pre, k, rfl, hk, hn, hb, hs, hT, hj⟩ := hrel
    rcases Nat.lt_or_ge k 1024 with hlt | hge
    · obtain ⟨x, hx⟩ : ∃ x : Int, (W0 k : Int) = x := ⟨_, rfl⟩
      have dk : decide ((k : Int) < 1024) = true := decide_eq_true (by omega)
      have kc1 : wr.cell? ⟨s, k, none⟩ = some (.int .u64 x) := by
        have := hs.cell k
        rw [setCells_get _ _ hlt, hx] at this
        exact this
      gi_wp2
      gi_region
      gi_wp2
      gi_loopw [4] (fun v wi => ∃ (pre' : List Int) (y : Nat), v = .int .u64 y ∧ Hid (y < 18446744073709551616) ∧ Hid (pre'.length + popN 64 y = tot (k + 1) W0) ∧ Boxed wi B 178 (.pointer (some ⟨s, 0, none⟩)) ∧ Blk wi s (setCells W0) 181 ∧ TzAt wi ∧ J pre' wi)
        (fun v _ => (intOf v).toNat)
      case atStart => exact ⟨pre, W0 k, by rw [hx], hW0 k, (by rw [hn.out]; rfl), hb, hs, hT, hJ _ _ _ hj (Wrote.of_below (Below.refl _ wr).drew)⟩
      case round =>
        obtain ⟨pre', y, rfl, hy, hn', hb', hs', hT', hj'⟩ := hrel
        by_cases h0y : y = 0
        · subst h0y
          gi_wp2
          go_roundw
          case rel => exact ⟨pre', k + 1, by go_num, by omega, hid (by have := hn'.out; rwa [popN_zero] at this), hb', hs', hT', hj'⟩
          case measure => simp [intOf]; omega
        · have e0 : ((y : Int) != 0) = true := by simp; omega
          have HTZ := hid (tz64 y hy.out _ hT')
          have HP := hid (popN_and 64 y h0y hy.out)
          have hcb : Lib.ctz 64 y < 64 := (Lib.lowest_bit 64 y h0y hy.out).2
          obtain ⟨c, hc⟩ : ∃ c : Nat, Lib.ctz 64 y = c := ⟨_, rfl⟩
          rw [hc] at HTZ hcb
          gi_wp2_with fail
          refine inW HTZ.out ?_
          rintro e w2 ⟨rfl, rfl⟩
          obtain ⟨fn, tmps, assign, body, hy2, hR⟩ := hY pre' (64 * k + c) w2 hj' (by have := hn'.out; have := popN_pos 64 y h0y hy.out; have := tot_le W0 (k + 1); show pre'.length < 65536; omega)
          replace hy2 : (Instr.yield lb #[.int .i64 (64 * (k : Int) + c)]).run Tryz.prog w2 = _ := hy2
          have HR := hid hR
          clear hR
          gi_wp2_with fail
          refine ⟨rfl, HR.out.mono ?_⟩
          rintro e W3 (⟨rfl, hJ3, hk3⟩ | ⟨rfl, hJx3⟩)
          · have hx1 : IntKind.u64.wrap ((y : Int) - 1) = ((y - 1 : Nat) : Int) := by have := hy.out; rw [IntKind.wrap_u64]; omega
            have hx2 : bits BinOp.and IntKind.u64 (y : Int) ((y - 1 : Nat) : Int) = ((y &&& (y - 1) : Nat) : Int) := by
              have := hy.out
              rw [bits_and_u64_nat y _ this (by omega)]
            have hle : y &&& (y - 1) ≤ y - 1 := Nat.and_le_right
            have hn3 : (pre' ++ [(64 * (k : Int) + c)]).length + popN 64 (y &&& (y - 1)) = tot (k + 1) W0 := by
              have h1 := hn'.out
              have h2 := HP.out
              simp
              omega
            have hb3 : Boxed W3 B 178 _ := (hk3.keep B (by simp)).trans hb'
            have hs3 : Blk W3 s _ 181 := hs'.keep (hk3.keep s (by simp))
            have hT3 : TzAt W3 := hT'.block (hk3.keep 1 (by simp))
            gi_wp2
            go_roundw
            case rel => exact ⟨_, y &&& (y - 1), by first | rfl | rw [hx2], hid (by have := hy.out; omega), hid hn3, hb3, hs3, hT3, hJ3⟩
            case measure => simp [intOf, hx2]; omega
          · gi_wp2
            simp only [Exit.noGoto_normal]
            refine bodyPost_end (results_none rfl _ _ _) rfl ?_
            exact ⟨⟨_, rfl⟩, .inr ⟨_, trivial, hJx3⟩⟩
    · obtain rfl : k = 1024 := by omega
      gi_wp2
      simp only [Exit.noGoto_normal]
      refine bodyPost_end (results_none rfl _ _ _) rfl ?_
      exact ⟨⟨_, rfl⟩, .inl ⟨_, hn.out, hj⟩⟩
end Go.Proofs.YtoinabapaeebfaaGreatDoor
