/- Plain facts on texts one behind the other, for the law UtfParts. -/
import Derived.Test.YtjgflihokbmhiaaUtfI
namespace Go.Proofs.Ytjgflihokbmhiaa
open Go.RowKit Go.Shelf

theorem runesL_ge (s : List UInt8) (p m : Nat) (h : (runesL s p).2 = some m) : p ≤ m := by
  generalize hn : s.length = n at *
  induction n using Nat.strongRecOn generalizing s p with
  | _ n ih =>
    by_cases hs : s = []
    · subst hs; simp [runesL_nil] at h
    · cases hb : badR s p with
      | true =>
        rw [runesL_bad s p hs hb] at h
        simp at h
        omega
      | false =>
        rw [runesL_good s p hs hb] at h
        have h1 := firstF_ne s p hb
        have h2 := List.length_pos_iff.2 hs
        have := ih (s.drop (firstF s).2).length (by simp; omega) _ _ h rfl
        omega

theorem firstF_split (s : List UInt8) (p : Nat) (h : badR s p = false) : s = encR (firstF s).1 ++ s.drop (firstF s).2 := by
  have h1 := firstF_ne s p h
  rcases firstF_spec s with h2 | ⟨r, n, h2, h3, h4, h5, h6, h7⟩
  · rw [h2] at h1; exact absurd rfl h1.1
  · rw [h2]
    dsimp only
    rw [h7, List.take_append_drop]

/-- A text behind another one. -/
theorem runesL_app (a b : List UInt8) (p : Nat) (hp : p + a.length + b.length ≤ 65535) :
    ((runesL a p).2 = none → runesL (a ++ b) p = ((runesL a p).1 ++ (runesL b (p + a.length)).1, (runesL b (p + a.length)).2)) ∧
    (∀ n, (runesL a p).2 = some n → ∀ m, (runesL (a ++ b) p).2 = some m → n ≤ m) := by
  generalize hn : a.length = k at *
  induction k using Nat.strongRecOn generalizing a p with
  | _ k ih =>
    by_cases hs : a = []
    · subst hs
      simp at hn
      subst hn
      simp [runesL_nil]
    · have hk : 0 < a.length := List.length_pos_iff.2 hs
      cases hb : badR a p with
      | true =>
        rw [runesL_bad a p hs hb]
        refine ⟨fun h => by simp at h, fun n h m hm => ?_⟩
        simp at h
        subst h
        exact runesL_ge _ _ _ hm
      | false =>
        have h1 := firstF_ne a p hb
        have h2 := firstF_split a p hb
        have h3 : firstF (a ++ b) = firstF a := by
          rw [h2, List.append_assoc, firstF_enc _ h1.1 h1.2.2.2.1, ← h2]
          exact Prod.ext rfl h1.2.2.2.2.2.symm
        have h4 := firstF_le a
        have hb2 : badR (a ++ b) p = false := by unfold badR at hb ⊢; rw [h3]; exact hb
        have h5 : (a ++ b).drop (firstF a).2 = a.drop (firstF a).2 ++ b := by rw [List.drop_append_of_le_length h4]
        have h6 : a ++ b ≠ [] := by simp [hs]
        obtain ⟨g1, g2⟩ := ih (a.drop (firstF a).2).length (by simp; omega) (a.drop (firstF a).2) (p + (firstF a).2) rfl (by simp; omega)
        rw [runesL_good a p hs hb, runesL_good (a ++ b) p h6 hb2, h3, h5]
        have h7 : p + (firstF a).2 + (a.drop (firstF a).2).length = p + k := by simp; omega
        rw [h7] at g1
        refine ⟨fun h => ?_, fun n h m hm => g2 n h m hm⟩
        rw [g1 h]
        simp

theorem runesL_shift (s : List UInt8) (p q : Nat) (hp : p + q + s.length ≤ 65535) : runesL s (q + p) = ((runesL s q).1, (runesL s q).2.map (· + p)) := by
  generalize hn : s.length = k at *
  induction k using Nat.strongRecOn generalizing s q with
  | _ k ih =>
    by_cases hs : s = []
    · subst hs; simp [runesL_nil]
    · have hk : 0 < s.length := List.length_pos_iff.2 hs
      have h4 := firstF_le s
      have hbb : badR s (q + p) = badR s q := by
        unfold badR
        rw [show decide (65535 < q + p + (firstF s).2) = false by simp; omega, show decide (65535 < q + (firstF s).2) = false by simp; omega]
      cases hb : badR s q with
      | true =>
        rw [runesL_bad s q hs hb, runesL_bad s (q + p) hs (by rw [hbb]; exact hb)]
        simp
      | false =>
        have h1 := firstF_ne s q hb
        rw [runesL_good s q hs hb, runesL_good s (q + p) hs (by rw [hbb]; exact hb)]
        have := ih (s.drop (firstF s).2).length (by simp; omega) (s.drop (firstF s).2) (q + (firstF s).2) rfl (by simp; omega)
        rw [show q + p + (firstF s).2 = q + (firstF s).2 + p by omega, this]

theorem wrongU_iff (s : List UInt8) : wrongU s = -1 ↔ (runesL s 0).2 = none := by
  unfold wrongU
  cases (runesL s 0).2 with
  | none => simp
  | some p => simp only [reduceCtorEq, iff_false]
theorem wrongU_some (s : List UInt8) (n : Nat) : wrongU s = n ↔ (runesL s 0).2 = some n := by
  unfold wrongU
  cases (runesL s 0).2 with
  | none => simp only [reduceCtorEq, iff_false]
  | some p => simp only [Option.some.injEq]; omega

theorem parts_right (a b : List UInt8) (hl : a.length + b.length ≤ 65535) (h : wrongU a = -1) :
    (wrongU b = -1 → wrongU (a ++ b) = -1 ∧ plainU (a ++ b) = (plainU a && plainU b)) ∧ (∀ n : Nat, wrongU b = n → wrongU (a ++ b) = (n : Int) + a.length) := by
  have h1 := (runesL_app a b 0 (by omega)).1 ((wrongU_iff a).1 h)
  have h2 := runesL_shift b a.length 0 (by omega)
  rw [h2] at h1
  refine ⟨fun hb => ?_, fun n hb => ?_⟩
  · have h3 := (wrongU_iff b).1 hb
    refine ⟨?_, ?_⟩
    · rw [wrongU_iff, h1, h3]; rfl
    · unfold plainU
      rw [h1, h3, (wrongU_iff a).1 h]
      simp
  · have h3 := (wrongU_some b n).1 hb
    have : wrongU (a ++ b) = ((n + a.length : Nat) : Int) := by rw [wrongU_some, h1, h3]; rfl
    rw [this]; omega
theorem parts_wrong (a b : List UInt8) (hl : a.length + b.length ≤ 65535) (h : 0 ≤ wrongU a) : wrongU (a ++ b) = -1 ∨ wrongU a ≤ wrongU (a ++ b) := by
  obtain ⟨n, hn⟩ := Int.eq_ofNat_of_zero_le h
  have h1 := (runesL_app a b 0 (by omega)).2 n ((wrongU_some a n).1 hn)
  cases hm : (runesL (a ++ b) 0).2 with
  | none => exact .inl ((wrongU_iff _).2 hm)
  | some m =>
    have h2 := h1 m hm
    have h3 := (wrongU_some _ m).2 hm
    right; rw [hn, h3]; omega
theorem runesL_le (s : List UInt8) (p m : Nat) (h : (runesL s p).2 = some m) : m ≤ p + s.length := by
  generalize hn : s.length = n at *
  induction n using Nat.strongRecOn generalizing s p with
  | _ n ih =>
    by_cases hs : s = []
    · subst hs; simp [runesL_nil] at h
    · cases hb : badR s p with
      | true =>
        rw [runesL_bad s p hs hb] at h
        simp at h
        omega
      | false =>
        rw [runesL_good s p hs hb] at h
        have h1 := firstF_ne s p hb
        have h2 := List.length_pos_iff.2 hs
        have h4 := firstF_le s
        have := ih (s.drop (firstF s).2).length (by simp; omega) _ _ h rfl
        simp at this
        omega
theorem wrongU_le (s : List UInt8) (n : Nat) (h : wrongU s = n) : n ≤ s.length := by
  have := runesL_le s 0 n ((wrongU_some s n).1 h)
  omega
end Go.Proofs.Ytjgflihokbmhiaa
