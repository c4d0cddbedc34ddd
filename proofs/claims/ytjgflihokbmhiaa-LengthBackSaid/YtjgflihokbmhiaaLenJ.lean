/- Plain facts on parts behind their lengths, for the law LengthBack. -/
import Derived.Test.YtjgflihokbmhiaaLenI
import Derived.Test.YtjgflihokbmhiaaLenG
namespace Go.Proofs.Ytjgflihokbmhiaa
open Go.RowKit Go.Shelf

/-- A part behind its length. -/
def encP (x : List UInt8) : List UInt8 := rawL (sizeL x.length) x.length ++ x
def encB (B : List (List UInt8)) : List UInt8 := (B.map encP).flatten
theorem mayL_small (m : Nat) (h : m ≤ 300) : mayL (m : Int) = true := (mayL_iff _).2 ⟨by omega, by omega⟩
theorem sizeL_small (m : Nat) (h : m ≤ 300) : sizeL (m : Int) = if m < 128 then 1 else 2 := by
  rw [sizeL_nat m (by omega)]
  by_cases h1 : m < 128
  · rw [if_pos h1, if_pos h1]
  · rw [if_neg h1, if_neg h1, if_pos (by omega)]
theorem encP_len (x : List UInt8) : (encP x).length = sizeL x.length + x.length := by unfold encP; rw [List.length_append, rawL_len]
theorem readL_encP (x : List UInt8) (h : x.length ≤ 300) (t : List UInt8) : readL (encP x ++ t) = ((x.length : Int), (sizeL x.length : Int), 0) := by
  have h1 := readL_raw (x.length : Int) (mayL_small _ h) (x ++ t)
  rw [Int.toNat_natCast] at h1
  unfold encP
  rw [List.append_assoc]
  exact h1
theorem encP_full (x : List UInt8) (h : x.length ≤ 300) (t : List UInt8) : errL 300 (encP x ++ t) = 0 ∧ fullL (encP x ++ t) = true ∧ partL (encP x ++ t) = x ∧ (encP x ++ t).drop (cutL (encP x ++ t)) = t := by
  have h1 := readL_encP x h t
  have h2 := sizeL_small x.length h
  have h3 := encP_len x
  have hs : 1 ≤ sizeL (x.length : Int) := by rw [h2]; split <;> omega
  have hc : cutL (encP x ++ t) = (encP x).length := by unfold cutL; rw [h1, h3]; simp
  refine ⟨?_, ?_, ?_, ?_⟩
  · unfold errL
    rw [h1]
    simp
    omega
  · unfold fullL
    rw [h1, List.length_append, h3]
    simp
    omega
  · unfold partL
    rw [hc, h1, List.take_left]
    unfold encP
    dsimp only
    rw [Int.toNat_natCast]
    conv => lhs; rw [show sizeL (x.length : Int) = (rawL (sizeL (x.length : Int)) x.length).length from (rawL_len _ _).symm]
    rw [rawL_len, show (rawL (sizeL (x.length : Int)) x.length ++ x).drop (sizeL (x.length : Int)) = (rawL (sizeL (x.length : Int)) x.length ++ x).drop (rawL (sizeL (x.length : Int)) x.length).length by rw [rawL_len], List.drop_left]
  · rw [hc, List.drop_left]
theorem readL_none (r : List UInt8) (h : r = [] ∨ ∃ y : UInt8, r = [y] ∧ 128 ≤ y.toNat) : readL r = (0, 0, 0) := by
  rcases h with rfl | ⟨y, rfl, hy⟩
  · rfl
  · have h1 : idxOf (fun x : UInt8 => decide (x.toNat < 128)) ([y].take 4) = -1 := idxOf_none _ _ (by intro x hx; simp at hx; subst hx; simpa using hy)
    unfold readL
    simp only [h1]
    simp
theorem encP_part (x : List UInt8) (h : x.length ≤ 300) (j : Nat) (hj : j < (encP x).length) : errL 300 ((encP x).take j) = 0 ∧ fullL ((encP x).take j) = false := by
  have h2 := sizeL_small x.length h
  have h3 := encP_len x
  rcases Nat.lt_or_ge j (sizeL (x.length : Int)) with h4 | h4
  · have h5 : readL ((encP x).take j) = (0, 0, 0) := by
      refine readL_none _ ?_
      rcases Nat.eq_zero_or_pos j with rfl | hj0
      · exact .inl (by simp)
      · right
        have h6 : ¬ x.length < 128 := fun h => by rw [h2, if_pos h] at h4; omega
        rw [if_neg h6] at h2
        obtain rfl : j = 1 := by omega
        unfold encP
        rw [h2]
        refine ⟨byteL x.length, by simp [rawL_cons], ?_⟩
        have := byteL_lt x.length
        omega
    unfold errL fullL
    rw [h5]
    simp
  · have h5 : (encP x).take j = rawL (sizeL x.length) x.length ++ x.take (j - sizeL x.length) := by
      unfold encP
      rw [List.take_append, rawL_len, List.take_of_length_le (by rw [rawL_len]; exact h4)]
    have h6 := readL_raw (x.length : Int) (mayL_small _ h) (x.take (j - sizeL x.length))
    rw [Int.toNat_natCast] at h6
    have h7 : (rawL (sizeL (x.length : Int)) x.length ++ x.take (j - sizeL (x.length : Int))).length = j := by
      rw [List.length_append, rawL_len, List.length_take]
      omega
    rw [h5]
    unfold errL fullL
    rw [h7, h6]
    constructor
    · simp; omega
    · simp
      intro _
      omega

theorem encB_cons (x : List UInt8) (B : List (List UInt8)) : encB (x :: B) = encP x ++ encB B := by simp [encB]
theorem encB_chain (B : List (List UInt8)) (hB : ∀ x ∈ B, x.length ≤ 300) (n come : Nat) (hc : (encB (B.take n)).length ≤ come) :
    ChainL 300 ((encB B).take come) (B.take n) (((encB B).take come).drop (encB (B.take n)).length) := by
  induction B generalizing n come with
  | nil => simp [encB, ChainL]
  | cons x B ih =>
    cases n with
    | zero => simp [encB, ChainL]
    | succ n =>
      have h0 : (encB ((x :: B).take (n + 1))).length = (encP x).length + (encB (B.take n)).length := by rw [List.take_succ_cons, encB_cons, List.length_append]
      rw [h0] at hc ⊢
      have h1 : (encB (x :: B)).take come = encP x ++ (encB B).take (come - (encP x).length) := by
        rw [encB_cons, List.take_append, List.take_of_length_le (by omega)]
      rw [h1]
      obtain ⟨g1, g2, g3, g4⟩ := encP_full x (hB x (by simp)) ((encB B).take (come - (encP x).length))
      refine ⟨g1, g2, g3.symm, ?_⟩
      rw [g4]
      have := ih (fun y hy => hB y (by simp [hy])) n (come - (encP x).length) (by omega)
      rw [← List.drop_drop, List.drop_left]
      exact this
theorem encB_stop (B : List (List UInt8)) (hB : ∀ x ∈ B, x.length ≤ 300) (n come : Nat) (hn : n ≤ B.length) (hc : (encB (B.take n)).length ≤ come) (hnext : n = B.length ∧ come ≤ (encB B).length ∨ n < B.length ∧ come < (encB (B.take (n + 1))).length) :
    errL 300 (((encB B).take come).drop (encB (B.take n)).length) = 0 ∧ fullL (((encB B).take come).drop (encB (B.take n)).length) = false := by
  induction B generalizing n come with
  | nil => simp [encB]; decide
  | cons x B ih =>
    cases n with
    | zero =>
      rcases hnext with ⟨h, _⟩ | ⟨_, h⟩
      · simp at h
      · rw [List.take_succ_cons, encB_cons] at h
        simp only [List.take_zero] at h ⊢
        have e0 : (encB ([] : List (List UInt8))).length = 0 := rfl
        rw [List.length_append, e0] at h
        rw [e0, List.drop_zero, encB_cons, List.take_append_of_le_length (by omega)]
        exact encP_part x (hB x (by simp)) come (by omega)
    | succ n =>
      have h0 : (encB ((x :: B).take (n + 1))).length = (encP x).length + (encB (B.take n)).length := by rw [List.take_succ_cons, encB_cons, List.length_append]
      rw [h0] at hc ⊢
      have h1 : (encB (x :: B)).take come = encP x ++ (encB B).take (come - (encP x).length) := by
        rw [encB_cons, List.take_append, List.take_of_length_le (by omega)]
      rw [h1, ← List.drop_drop, List.drop_left]
      refine ih (fun y hy => hB y (by simp [hy])) n (come - (encP x).length) (by simpa using hn) (by omega) ?_
      rcases hnext with ⟨h, h'⟩ | ⟨h, h'⟩
      · rw [encB_cons, List.length_append] at h'
        exact .inl ⟨by simpa using h, by omega⟩
      · rw [List.take_succ_cons, encB_cons, List.length_append] at h'
        exact .inr ⟨by simpa using h, by omega⟩
theorem encB_le (B : List (List UInt8)) (hB : ∀ x ∈ B, x.length ≤ 300) : (encB B).length ≤ 302 * B.length := by
  induction B with
  | nil => simp [encB]
  | cons x B ih =>
    have h1 := ih (fun y hy => hB y (by simp [hy]))
    have h2 := hB x (by simp)
    have h3 := sizeL_small x.length h2
    rw [encB_cons, List.length_append, encP_len]
    simp only [List.length_cons]
    have : sizeL (x.length : Int) ≤ 2 := by rw [h3]; split <;> omega
    omega
theorem encB_snoc (B : List (List UInt8)) (x : List UInt8) : encB (B ++ [x]) = encB B ++ rawL (sizeL x.length) x.length ++ x := by simp [encB, encP]
theorem encB_mono (B : List (List UInt8)) (i j : Nat) (h : i ≤ j) : (encB (B.take i)).length ≤ (encB (B.take j)).length := by
  have h1 : B.take j = B.take i ++ (B.take j).drop i := by
    conv => lhs; rw [← List.take_append_drop i (B.take j)]
    rw [List.take_take, Nat.min_eq_left h]
  rw [h1]
  simp [encB]
end Go.Proofs.Ytjgflihokbmhiaa
