/- Contracts of package outbox (part 12): find. -/
import Derived.Test.YtodbdojjllabmaaGreatDoorOutK
namespace Go.Proofs.YtodbdojjllabmaaGreatDoor
open Go.RowKit Go.Shelf

/-- Is it under way with this ID? -/
def RowV.has (z : Int) (r : RowV) : Bool := decide (r.stage ≠ 1) && decide (r.id = z)

set_option maxRecDepth 100000 in
set_option maxHeartbeats 400000 in
theorem out_find1 (b : Nat) (r : RowV) (z : Int) (c : Nat) (w : World) (h : Blk w b r.vals 30) (hc : Boxed w c 2 (.int .i64 z)) :
    Calls Tryz.prog 63 #[.pointer (some ⟨b, 0, none⟩), .pointer (some ⟨c, 0, none⟩)] w fun e w' => e = .returned (.bool (r.has z)) ∧ Below w.heap.size w w' := by
  have hh : r.has z = (decide (r.stage ≠ 1) && decide (r.id = z)) := rfl
  obtain ⟨st, hst⟩ : ∃ st, r.stage = st := ⟨_, rfl⟩
  obtain ⟨id, hid'⟩ : ∃ st, r.id = st := ⟨_, rfl⟩
  have c8 : w.cell? ⟨b, 8, none⟩ = some (.int .i64 st) := (h.cell 8).trans (by rw [← hst]; rfl)
  have c3 : w.cell? ⟨b, 3, none⟩ = some (.int .i64 id) := (h.cell 3).trans (by rw [← hid']; rfl)
  have k := hc.cell
  rw [hst, hid'] at hh
  by_cases h1 : st = 1
  · subst h1
    rw [hh]
    clear hh hst hid' h hc
    go_enter Tryz.func63, Tryz.ntmps63
    go_wp2
    refine regionQ [(1000, fun w' => w'.cell? ⟨b, 8, none⟩ = some (.int .i64 1))] (by kernel_rfl) ⟨c8, trivial⟩ fun KQ hKQ => ?_
    refine takeQ 0 rfl (by kernel_rfl) rfl (by kernel_rfl) fun K hK => ?_
    simp only [List.getElem_toArray, List.getElem_cons_zero, List.getElem_cons_succ]
    go_big_quiet_op
    refine hK _ ?_
    clear hK K
    refine nilQ 1 rfl (by kernel_rfl) (by kernel_rfl) rfl rfl ?_
    simp only [Act.put, List.getElem_toArray, List.getElem_cons_zero, List.getElem_cons_succ, List.setIfInBounds_toArray, List.set_cons_zero, List.set_cons_succ]
    refine takeQ 2 rfl (by kernel_rfl) rfl (by kernel_rfl) fun K hK => ?_
    simp only [List.getElem_toArray, List.getElem_cons_zero, List.getElem_cons_succ]
    go_big_quiet_op
    refine hK _ ?_
    clear hK K
    refine loadQ 3 rfl (by kernel_rfl) (by kernel_rfl) rfl rfl 0 rfl (by kernel_rfl) _ (fun w' hf => by (go_simp <;> with_reducible rfl)) ?_
    simp only [Act.put, List.getElem_toArray, List.getElem_cons_zero, List.getElem_cons_succ, List.setIfInBounds_toArray, List.set_cons_zero, List.set_cons_succ]
    refine takeQ 4 rfl (by kernel_rfl) rfl (by kernel_rfl) fun K hK => ?_
    simp only [List.getElem_toArray, List.getElem_cons_zero, List.getElem_cons_succ]
    go_big_quiet_op
    refine hK _ ?_
    clear hK K
    refine takeQ 5 rfl (by kernel_rfl) rfl (by kernel_rfl) fun K hK => ?_
    simp only [List.getElem_toArray, List.getElem_cons_zero, List.getElem_cons_succ]
    go_big_quiet_op
    refine hK _ ?_
    clear hK K
    refine skipQ 6 rfl (by kernel_rfl) (by kernel_rfl) ?_
    simp only [Act.put, List.getElem_toArray, List.getElem_cons_zero, List.getElem_cons_succ, List.setIfInBounds_toArray, List.set_cons_zero, List.set_cons_succ]
    refine skipQ 7 rfl (by kernel_rfl) (by kernel_rfl) ?_
    simp only [Act.put, List.getElem_toArray, List.getElem_cons_zero, List.getElem_cons_succ, List.setIfInBounds_toArray, List.set_cons_zero, List.set_cons_succ]
    refine skipQ 8 rfl (by kernel_rfl) (by kernel_rfl) ?_
    simp only [Act.put, List.getElem_toArray, List.getElem_cons_zero, List.getElem_cons_succ, List.setIfInBounds_toArray, List.set_cons_zero, List.set_cons_succ]
    refine skipQ 9 rfl (by kernel_rfl) (by kernel_rfl) ?_
    simp only [Act.put, List.getElem_toArray, List.getElem_cons_zero, List.getElem_cons_succ, List.setIfInBounds_toArray, List.set_cons_zero, List.set_cons_succ]
    refine skipQ 10 rfl (by kernel_rfl) (by kernel_rfl) ?_
    simp only [Act.put, List.getElem_toArray, List.getElem_cons_zero, List.getElem_cons_succ, List.setIfInBounds_toArray, List.set_cons_zero, List.set_cons_succ]
    refine skipQ 11 rfl (by kernel_rfl) (by kernel_rfl) ?_
    simp only [Act.put, List.getElem_toArray, List.getElem_cons_zero, List.getElem_cons_succ, List.setIfInBounds_toArray, List.set_cons_zero, List.set_cons_succ]
    refine takeQ 12 rfl (by kernel_rfl) rfl (by kernel_rfl) fun K hK => ?_
    simp only [List.getElem_toArray, List.getElem_cons_zero, List.getElem_cons_succ]
    go_big_quiet_op
    refine hK _ ?_
    clear hK K
    refine takeQ 13 rfl (by kernel_rfl) rfl (by kernel_rfl) fun K hK => ?_
    simp only [List.getElem_toArray, List.getElem_cons_zero, List.getElem_cons_succ]
    go_big_quiet_op
    refine hK _ ?_
    clear hK K
    refine doneQ (by kernel_rfl) (hKQ.out _ _ ?_)
    clear hKQ KQ
    go_wp2
    go_ret
    exact ⟨by simp, (Below.refl _ w).drew⟩
  · have e1 : (st != 1) = true := by simpa using h1
    have hh2 : r.has z = (id == z) := by
      rw [hh]
      by_cases e : id = z <;> simp [h1, e]
    rw [hh2]
    clear hh hh2 hst hid' h hc
    go_enter Tryz.func63, Tryz.ntmps63
    go_wp2
    refine regionQ [(1000, fun w' => w'.cell? ⟨b, 8, none⟩ = some (.int .i64 st)), (1000, fun w' => w'.cell? ⟨b, 3, none⟩ = some (.int .i64 id)), (1000, fun w' => w'.cell? ⟨c, 0, none⟩ = some (.int .i64 z))] (by kernel_rfl) ⟨c8, c3, k, trivial⟩ fun KQ hKQ => ?_
    refine takeQ 0 rfl (by kernel_rfl) rfl (by kernel_rfl) fun K hK => ?_
    simp only [List.getElem_toArray, List.getElem_cons_zero, List.getElem_cons_succ]
    go_big_quiet_op
    refine hK _ ?_
    clear hK K
    refine nilQ 1 rfl (by kernel_rfl) (by kernel_rfl) rfl rfl ?_
    simp only [Act.put, List.getElem_toArray, List.getElem_cons_zero, List.getElem_cons_succ, List.setIfInBounds_toArray, List.set_cons_zero, List.set_cons_succ]
    refine takeQ 2 rfl (by kernel_rfl) rfl (by kernel_rfl) fun K hK => ?_
    simp only [List.getElem_toArray, List.getElem_cons_zero, List.getElem_cons_succ]
    go_big_quiet_op
    refine hK _ ?_
    clear hK K
    refine loadQ 3 rfl (by kernel_rfl) (by kernel_rfl) rfl rfl 0 rfl (by kernel_rfl) _ (fun w' hf => by (go_simp <;> with_reducible rfl)) ?_
    simp only [Act.put, List.getElem_toArray, List.getElem_cons_zero, List.getElem_cons_succ, List.setIfInBounds_toArray, List.set_cons_zero, List.set_cons_succ]
    refine takeQ 4 rfl (by kernel_rfl) rfl (by kernel_rfl) fun K hK => ?_
    simp only [List.getElem_toArray, List.getElem_cons_zero, List.getElem_cons_succ]
    go_big_quiet_op
    refine hK _ ?_
    clear hK K
    refine takeQ 5 rfl (by kernel_rfl) rfl (by kernel_rfl) fun K hK => ?_
    simp only [List.getElem_toArray, List.getElem_cons_zero, List.getElem_cons_succ]
    go_big_quiet_op
    refine hK _ ?_
    clear hK K
    refine takeQ 6 rfl (by kernel_rfl) rfl (by kernel_rfl) fun K hK => ?_
    simp only [List.getElem_toArray, List.getElem_cons_zero, List.getElem_cons_succ]
    go_big_quiet_op
    refine hK _ ?_
    clear hK K
    refine nilQ 7 rfl (by kernel_rfl) (by kernel_rfl) rfl rfl ?_
    simp only [Act.put, List.getElem_toArray, List.getElem_cons_zero, List.getElem_cons_succ, List.setIfInBounds_toArray, List.set_cons_zero, List.set_cons_succ]
    refine takeQ 8 rfl (by kernel_rfl) rfl (by kernel_rfl) fun K hK => ?_
    simp only [List.getElem_toArray, List.getElem_cons_zero, List.getElem_cons_succ]
    go_big_quiet_op
    refine hK _ ?_
    clear hK K
    refine loadQ 9 rfl (by kernel_rfl) (by kernel_rfl) rfl rfl 1 rfl (by kernel_rfl) _ (fun w' hf => by (go_simp <;> with_reducible rfl)) ?_
    simp only [Act.put, List.getElem_toArray, List.getElem_cons_zero, List.getElem_cons_succ, List.setIfInBounds_toArray, List.set_cons_zero, List.set_cons_succ]
    refine loadQ 10 rfl (by kernel_rfl) (by kernel_rfl) rfl rfl 2 rfl (by kernel_rfl) _ (fun w' hf => by (go_simp <;> with_reducible rfl)) ?_
    simp only [Act.put, List.getElem_toArray, List.getElem_cons_zero, List.getElem_cons_succ, List.setIfInBounds_toArray, List.set_cons_zero, List.set_cons_succ]
    refine takeQ 11 rfl (by kernel_rfl) rfl (by kernel_rfl) fun K hK => ?_
    simp only [List.getElem_toArray, List.getElem_cons_zero, List.getElem_cons_succ]
    go_big_quiet_op
    refine hK _ ?_
    clear hK K
    refine takeQ 12 rfl (by kernel_rfl) rfl (by kernel_rfl) fun K hK => ?_
    simp only [List.getElem_toArray, List.getElem_cons_zero, List.getElem_cons_succ]
    go_big_quiet_op
    refine hK _ ?_
    clear hK K
    refine takeQ 13 rfl (by kernel_rfl) rfl (by kernel_rfl) fun K hK => ?_
    simp only [List.getElem_toArray, List.getElem_cons_zero, List.getElem_cons_succ]
    go_big_quiet_op
    refine hK _ ?_
    clear hK K
    refine doneQ (by kernel_rfl) (hKQ.out _ _ ?_)
    clear hKQ KQ
    go_wp2
    go_ret
    exact ⟨by simp, (Below.refl _ w).drew⟩

theorem idx_step {α : Type} (p : α → Bool) (l : List α) (k : Nat) (hk : k ≤ l.length) (h : ∀ j (hj : j < k), p (l[j]'(by omega)) = false) : (k = l.length → idxOf p l = -1) ∧ (∀ hlt : k < l.length, p l[k] = true → idxOf p l = k) :=
  ⟨fun e => idxOf_none p l (fun x hx => by
    obtain ⟨i, hi, rfl⟩ := List.getElem_of_mem hx
    exact h i (by omega)), fun hlt hp => idxOf_at p l k hlt h hp⟩

set_option maxRecDepth 100000 in
set_option maxHeartbeats 400000 in
theorem out_IndexFunc {w : World} {B : Nat} {L : Lay} {s : OS} {ps : List PackV} {cs : List ChangeV} (h : OB w B L s ps cs) (c : Nat) (z : Int) (hc : Boxed w c 2 (.int .i64 z)) :
    Calls Tryz.prog 62 #[L.vl, .func (.func 63) #[] #[.pointer (some ⟨c, 0, none⟩)]] w fun e w' => e = .returned (.int .i64 (idxOf (RowV.has z) s.l)) ∧ Below w.heap.size w w' := by
  obtain ⟨al, cl, hvl, -⟩ := own_cell h.rows
  rw [hvl]
  obtain ⟨n, hn⟩ : ∃ n : Int, (s.l.length : Int) = n := ⟨_, rfl⟩
  have hlen := h.len
  have hroom : s.l.length ≤ 1000 := by have := h.ok.room; omega
  obtain ⟨Y, hY⟩ : ∃ Y, idxOf (RowV.has z) s.l = Y := ⟨_, rfl⟩
  rw [hY]
  go_enter Tryz.func62, Tryz.ntmps62
  go_wp2
  go_loopw [5, 8] (fun _ i wr => ∃ (k : Nat), i = .int .i64 k ∧ k ≤ s.l.length ∧ Hid (∀ (j : Nat) (r : RowV), j < k → s.l[j]? = some r → r.has z = false) ∧ Below w.heap.size w wr)
    (fun _ i _ => s.l.length - (intOf i).toNat)
  case atStart => exact ⟨0, rfl, Nat.zero_le _, hid (fun j r hj => absurd hj (Nat.not_lt_zero _)), Below.refl _ _⟩
  case round =>
    obtain ⟨k, rfl, hk, hf, hb⟩ := hrel
    have hx := idx_step (RowV.has z) s.l k hk (fun j hj => hf.out j _ hj (List.getElem?_eq_getElem _))
    rcases Nat.lt_or_ge k s.l.length with hlt | hge
    · have dk : decide ((k : Int) < (s.l.length : Int)) = true := decide_eq_true (by omega)
      have hO := h.below hb
      obtain ⟨a', c', he, hal'⟩ := own_cell hO.rows
      rw [hvl] at he
      cases he
      obtain ⟨b, hbk⟩ : ∃ b, L.rb[k]? = some b := ⟨_, List.getElem?_eq_getElem (by omega)⟩
      obtain ⟨g, rfl, hg⟩ := hal' k (.pointer (some ⟨b, 0, none⟩)) (by simp [ptrs, hbk])
      have hrk : s.l[k]? = some s.l[k] := List.getElem?_eq_getElem hlt
      have CF := hid (out_find1 b s.l[k] z c _ (hO.cells k b _ hbk hrk) (boxed_below hc hb))
      obtain ⟨r, hr⟩ : ∃ r, s.l[k] = r := ⟨_, rfl⟩
      rw [hr] at CF hrk
      have hx2 := hid (hx.2 hlt)
      rw [hr] at hx2
      clear hr hx
      cases hrh : r.has z
      · rw [hrh] at CF
        go_wp2_with (go_at_call 63; refine CF.out.mono ?_; rintro e w1 ⟨rfl, hb1⟩)
        go_roundw
        case rel => exact ⟨k + 1, by go_num, by omega, hid (fun j r' hj hr' => by
          rcases Nat.lt_or_ge j k with h1 | h1
          · exact hf.out j r' h1 hr'
          · obtain rfl : j = k := by omega
            rw [hrk] at hr'; cases hr'; exact hrh), hb.trans (hb1.mono hb.size)⟩
        case measure => simp [intOf]; omega
      · rw [hrh] at CF
        have hYk := hx2.out hrh
        go_wp2_with (go_at_call 63; refine CF.out.mono ?_; rintro e w1 ⟨rfl, hb1⟩)
        go_ret
        exact ⟨by rw [← hY, hYk]; rfl, hb.trans (hb1.mono hb.size)⟩
    · have hk2 : k = s.l.length := by omega
      have hYk := hx.1 hk2
      have dk : decide ((k : Int) < (s.l.length : Int)) = false := decide_eq_false (by omega)
      go_wp2
      go_ret
      exact ⟨by rw [← hY, hYk]; rfl, hb⟩

set_option maxRecDepth 100000 in
set_option maxHeartbeats 400000 in
theorem out_find {w : World} {B : Nat} {L : Lay} {s : OS} {ps : List PackV} {cs : List ChangeV} (h : OB w B L s ps cs) (z : Int) :
    Calls Tryz.prog 38 #[.pointer (some ⟨L.p, 0, none⟩), .int .i64 z] w fun e w' => e = .returned (.int .i64 (idxOf (RowV.has z) s.l)) ∧ Below w.heap.size w w' := by
  obtain ⟨al, cl, hvl, -⟩ := own_cell h.rows
  have CI := hid (out_IndexFunc (h.alloc (.cells #[.int .i64 z] 2)) w.heap.size z (Boxed.new w 2 (.int .i64 z)))
  have k6 : ∀ o, (w.alloc o).cell? ⟨L.p, 6, none⟩ = some L.vl := fun o => (h.alloc o).box.cell 6
  rw [hvl] at k6 CI
  go_enter Tryz.func38, Tryz.ntmps38
  go_wp2_with (go_at_call 62; refine CI.out.mono ?_; rintro e w1 ⟨rfl, hb1⟩)
  go_ret
  exact ⟨rfl, ((Below.refl _ w).alloc (Nat.le_refl _) _).trans (hb1.mono (by simp))⟩
end Go.Proofs.YtodbdojjllabmaaGreatDoor
