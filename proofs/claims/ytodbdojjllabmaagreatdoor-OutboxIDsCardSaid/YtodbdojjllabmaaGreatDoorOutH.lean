/- Contracts of package outbox (part 8): the iterator of the rows that wait. -/
import Derived.Test.YtodbdojjllabmaaGreatDoorOutG
import Derived.Test.YtodbdojjllabmaaGreatDoorRangeJ
import Derived.Test.YtodbdojjllabmaaGreatDoorInD
namespace Go.Proofs.YtodbdojjllabmaaGreatDoor
open Go.RowKit Go.Shelf
attribute [local go_sem] Oper.semAt_some

/-- The first k places, those that wait. -/
def waitQ (st : Nat → Int) (k : Nat) : List Nat := (List.range k).filter fun i => decide (st i = 1)
theorem waitQ_succ (st : Nat → Int) (k : Nat) : waitQ st (k + 1) = waitQ st k ++ (if st k = 1 then [k] else []) := by
  simp only [waitQ, List.range_succ, List.filter_append]
  congr 1
  by_cases h : st k = 1 <;> simp [h]
theorem waitQ_rest (st : Nat → Int) (k n : Nat) (h : k ≤ n) : ∃ rest, waitQ st n = waitQ st k ++ rest := by
  induction n with
  | zero => obtain rfl : k = 0 := by omega
            exact ⟨[], by simp⟩
  | succ n ih =>
    rcases Nat.lt_or_ge k (n + 1) with h1 | h1
    · obtain ⟨rest, hr⟩ := ih (by omega)
      exact ⟨rest ++ (if st n = 1 then [n] else []), by rw [waitQ_succ, hr, List.append_assoc]⟩
    · obtain rfl : k = n + 1 := by omega
      exact ⟨[], by simp⟩
theorem waitQ_lt (st : Nat → Int) (k : Nat) : ∀ j ∈ waitQ st k, j < k := by
  intro j hj
  simp [waitQ] at hj
  exact hj.1

/-- What the iterator relies on. -/
structure WInv (p c : Nat) (vl : Value) (rb : List Nat) (st : Nat → Int) (pre : List Nat) (W : World) : Prop where
  box : Boxed W c 23 (.pointer (some ⟨p, 0, none⟩))
  l : W.cell? ⟨p, 6, none⟩ = some vl
  rows : W.ownsRow 0 84 1 vl rb.length (ptrs rb)
  stage : ∀ i b, rb[i]? = some b → (∀ j ∈ pre, j < i) → W.cell? ⟨b, 8, none⟩ = some (.int .i64 (st i))
def encW (rb : List Nat) (i : Nat) : Array Value := #[.pointer (some ⟨rb[i]?.getD 0, 0, none⟩)]

theorem own_cell {w : World} {base : Nat} {e : TypeId} {v : Value} {n : Nat} {xs : List Value} (h : w.ownsRow base e 1 v n xs) : ∃ a cap, v = .slice a n cap ∧ ∀ i x, xs[i]? = some x → ∃ g, a = some ⟨g, 0, none⟩ ∧ w.cell? ⟨g, i, none⟩ = some x := by
  obtain ⟨hl, ⟨rfl, rfl⟩ | ⟨g, cap, cur, rfl, _, hg, hn, _, hc, ht⟩⟩ := h
  · refine ⟨none, 0, rfl, fun i x hx => ?_⟩
    have : xs = [] := List.eq_nil_of_length_eq_zero (by simpa using hl)
    subst this; simp at hx
  · refine ⟨_, _, rfl, fun i x hx => ⟨g, rfl, ?_⟩⟩
    have hlt := (List.getElem?_eq_some_iff.1 hx).1
    rw [← ht] at hx
    have h1 : i < n * 1 := by omega
    rw [List.getElem?_take_of_lt h1] at hx
    simp [World.cell?, hg]
    simpa using hx

set_option maxRecDepth 100000 in
set_option maxHeartbeats 1000000 in
theorem out_waits1 (p c : Nat) (vl : Value) (rb : List Nat) (st : Nat → Int) (w : World) (hn : rb.length ≤ 1000000) :
    SeqJ Tryz.prog 113 #[.pointer (some ⟨c, 0, none⟩)] (encW rb) (WInv p c vl rb st) (Wrote []) (fun pre x _ => ∃ rest, waitQ st rb.length = pre ++ x :: rest) (fun xs => xs = waitQ st rb.length) (fun pre => ∃ rest, waitQ st rb.length = pre ++ rest) w := by
  intro lb J Jx W hW hlb hJ hJx hI hY h0
  have hi0 := hI _ _ h0
  have hb := hi0.box.cell
  have hl := hi0.l
  obtain ⟨al, cl, rfl, hal⟩ := own_cell hi0.rows
  refine callsIn_of_wp Tryz.func113 rfl trivial ?_ rfl
  simp only [Tryz.ntmps113, List.size_toArray, List.length_cons, List.length_nil, Nat.reduceAdd, Nat.reduceSub, Array.replicate_succ, Array.replicate_zero, List.push_toArray, List.append_toArray, List.nil_append, List.cons_append]
  gi_wp2
  gi_loopw [4, 10] (fun _ i wr => ∃ (k : Nat), i = .int .i64 k ∧ k ≤ rb.length ∧ J (waitQ st k) wr)
    (fun _ i _ => rb.length - (intOf i).toNat)
  case atStart => exact ⟨0, rfl, Nat.zero_le _, h0⟩
  case round =>
    obtain ⟨k, rfl, hk, hj⟩ := hrel
    rcases Nat.lt_or_ge k rb.length with hlt | hge
    · have dk : decide ((k : Int) < (rb.length : Int)) = true := decide_eq_true (by omega)
      have hi := hI _ _ hj
      obtain ⟨a', c', he, hal'⟩ := own_cell hi.rows
      cases he
      obtain ⟨b, hbk⟩ : ∃ b, rb[k]? = some b := ⟨_, List.getElem?_eq_getElem hlt⟩
      obtain ⟨g, rfl, hg⟩ := hal' k (.pointer (some ⟨b, 0, none⟩)) (by simp [ptrs, hbk])
      have hst := hi.stage k b hbk (waitQ_lt st k)
      have hq := hid (waitQ_succ st k)
      obtain ⟨v, hv⟩ : ∃ v, st k = v := ⟨_, rfl⟩
      rw [hv] at hst hq
      by_cases h1 : v = 1
      · subst h1
        have hq' : waitQ st (k + 1) = waitQ st k ++ [k] := by rw [hq.out]; rfl
        obtain ⟨rest, hrest⟩ := waitQ_rest st (k + 1) rb.length (by omega)
        have hrest' : waitQ st rb.length = waitQ st k ++ k :: rest := by rw [hrest, hq']; simp
        obtain ⟨fn, tmps, assign, body, hy2, hR⟩ := hY (waitQ st k) k wr hj ⟨rest, hrest'⟩
        replace hy2 : (Instr.yield lb #[.pointer (some ⟨rb[k]?.getD 0, 0, none⟩)]).run Tryz.prog wr = _ := hy2
        rw [hbk] at hy2
        simp only [Option.getD_some] at hy2
        have HR := hid hR
        clear hR
        gi_wp2_with fail
        refine ⟨rfl, HR.out.mono ?_⟩
        rintro e W3 (⟨rfl, hJ3⟩ | ⟨rfl, hJx3⟩)
        · gi_wp2
          go_roundw
          case rel => exact ⟨k + 1, by go_num, by omega, by rw [hq']; exact hJ3⟩
          case measure => simp [intOf]; omega
        · gi_wp2
          refine bodyPost_ret (results_none rfl _ _ _) rfl ?_
          exact ⟨⟨_, rfl⟩, .inr ⟨_, ⟨rest, by rw [hrest', List.append_assoc]; rfl⟩, hJx3⟩⟩
      · have e1 : (v == 1) = false := by simpa using h1
        have hq' : waitQ st (k + 1) = waitQ st k := by rw [hq.out, if_neg h1]; simp
        gi_wp2
        refine ⟨fun f hf => (by cases hf), ?_⟩
        gi_wp2
        go_roundw
        case rel => exact ⟨k + 1, by go_num, by omega, by rw [hq']; exact hj⟩
        case measure => simp [intOf]; omega
    · obtain rfl : k = rb.length := by omega
      gi_wp2
      refine bodyPost_end (results_none rfl _ _ _) rfl ?_
      exact ⟨⟨_, rfl⟩, .inl ⟨_, rfl, hj⟩⟩
end Go.Proofs.YtodbdojjllabmaaGreatDoor
