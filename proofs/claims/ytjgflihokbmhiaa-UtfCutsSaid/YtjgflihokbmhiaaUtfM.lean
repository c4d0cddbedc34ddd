/- Plain facts for the laws UtfReads, UtfRaws, UtfCuts. -/
import Derived.Test.YtjgflihokbmhiaaUtfJ
import Derived.Test.YtjgflihokbmhiaaUtfG
namespace Go.Proofs.Ytjgflihokbmhiaa
open Go.RowKit Go.Shelf

/-- A text that is right is the bytes of its runes. -/
theorem runesL_back (s : List UInt8) (p : Nat) (h : (runesL s p).2 = none) : ((runesL s p).1.map encR).flatten = s ∧ (∀ r ∈ (runesL s p).1, r ≠ 0 ∧ mayR r = true) ∧ (s ≠ [] → p + s.length ≤ 65535) := by
  generalize hn : s.length = n at *
  induction n using Nat.strongRecOn generalizing s p with
  | _ n ih =>
    by_cases hs : s = []
    · subst hs; simp [runesL_nil]
    · cases hb : badR s p with
      | true =>
        rw [runesL_bad s p hs hb] at h
        simp at h
      | false =>
        have h1 := firstF_ne s p hb
        have h2 := List.length_pos_iff.2 hs
        have h3 := firstF_split s p hb
        have h4 := firstF_le s
        rw [runesL_good s p hs hb] at h ⊢
        obtain ⟨g1, g2, g3⟩ := ih (s.drop (firstF s).2).length (by simp; omega) (s.drop (firstF s).2) (p + (firstF s).2) h rfl
        refine ⟨?_, fun r hr => ?_, fun _ => ?_⟩
        · rw [List.map_cons, List.flatten_cons, g1, ← h3]
        · rcases List.mem_cons.1 hr with rfl | hr
          · exact ⟨h1.1, h1.2.2.2.1⟩
          · exact g2 r hr
        · by_cases h5 : s.drop (firstF s).2 = []
          · have h6 := congrArg List.length h5
            simp at h6
            omega
          · have := g3 h5
            simp at this
            omega

theorem encAll_nat (l : List Nat) : encAll (l.map fun (r : Nat) => (r : Int)) = (l.map encR).flatten := by
  unfold encAll
  rw [List.map_map]
  congr 1
theorem rawU_runes (s : List UInt8) (h : wrongU s = -1) : rawU (runesI s) = (s, 0) := by
  obtain ⟨h1, h2, h3⟩ := runesL_back s 0 ((wrongU_iff s).1 h)
  have h4 : encAll (runesI s) = s := by unfold runesI; rw [encAll_nat, h1]
  have h5 : s.length ≤ 65535 := by
    by_cases hs : s = []
    · subst hs; simp
    · have := h3 hs; omega
  unfold rawU
  rw [h4, h, idxOf_none _ _ (by
    intro x hx
    obtain ⟨r, hr, rfl⟩ := List.mem_map.1 hx
    rw [(h2 r hr).2]; rfl)]
  rw [if_neg (by omega), if_neg (by omega)]

/-- The runes of runes' bytes. -/
theorem runesL_encs (l : List Nat) (p : Nat) (h : ∀ r ∈ l, r ≠ 0 ∧ mayR r = true) (hp : p + (l.map encR).flatten.length ≤ 65535) : runesL (l.map encR).flatten p = (l, none) := by
  induction l generalizing p with
  | nil => rfl
  | cons r l ih =>
    have h1 := h r (by simp)
    have hb := lenR_bd r
    rw [List.map_cons, List.flatten_cons, List.length_append, encR_len] at hp
    have h3 := firstF_enc r h1.1 h1.2 (l.map encR).flatten
    have hne : encR r ++ (l.map encR).flatten ≠ [] := by
      intro hh
      have h2 := congrArg List.length hh
      rw [List.length_append, encR_len] at h2
      simp at h2
      omega
    have hbad : badR (encR r ++ (l.map encR).flatten) p = false := by
      unfold badR
      rw [h3]
      simp
      omega
    have hd : (encR r ++ (l.map encR).flatten).drop (lenR r) = (l.map encR).flatten := by rw [← encR_len r, List.drop_left]
    rw [List.map_cons, List.flatten_cons, runesL_good _ _ hne hbad, h3]
    dsimp only
    rw [hd, ih (p + lenR r) (fun x hx => h x (by simp [hx])) (by omega)]
theorem firstF_zero (t : List UInt8) : (firstF (0 :: t)).2 = 0 := by
  rcases firstF_spec (0 :: t) with h | ⟨v, n, h, h2, h3, h4, h5, h6⟩
  · rw [h]
  · exfalso
    have h7 := (mayR_iff v).1 h3
    obtain ⟨y, g1, g2, g3, g4⟩ : ∃ y : Nat, (encR v)[0]? = some (b8 y) ∧ y < 256 ∧ 0 < y ∧ True := by
      unfold encR
      by_cases h1 : v < 128
      · exact ⟨v, by simp [h1], by omega, by omega, trivial⟩
      · by_cases h2 : v < 2048
        · exact ⟨192 + v / 64, by simp [h1, h2], by omega, by omega, trivial⟩
        · by_cases h3 : v < 65536
          · exact ⟨224 + v / 4096, by simp [h1, h2, h3], by omega, by omega, trivial⟩
          · exact ⟨240 + v / 262144, by simp [h1, h2, h3], by omega, by omega, trivial⟩
    have hn := (lenR_bd v).1
    rw [h6, List.getElem?_take_of_lt (by omega)] at g1
    simp at g1
    have h8 := congrArg UInt8.toNat g1
    rw [b8_nat y g2] at h8
    simp at h8
    omega
theorem runesL_nought (l : List Nat) (p : Nat) (h : ∀ r ∈ l, mayR r = true) (h0 : 0 ∈ l) : (runesL (l.map encR).flatten p).2 ≠ none := by
  intro hn
  obtain ⟨g1, g2, g3⟩ := runesL_back _ p hn
  by_cases hp : p + (l.map encR).flatten.length ≤ 65535
  · clear g1 g2 g3
    induction l generalizing p with
    | nil => cases h0
    | cons r l ih =>
      by_cases hr : r = 0
      · subst hr
        rw [List.map_cons, List.flatten_cons] at hn
        have he : encR 0 = [0] := by decide
        rw [he, List.cons_append, List.nil_append] at hn
        rw [runesL_bad _ _ (by simp) (by unfold badR; rw [firstF_zero]; rfl)] at hn
        simp at hn
      · have h1 := h r (by simp)
        have hb := lenR_bd r
        rw [List.map_cons, List.flatten_cons, List.length_append, encR_len] at hp
        rw [List.map_cons, List.flatten_cons] at hn
        have h3 := firstF_enc r hr h1 (l.map encR).flatten
        have hne : encR r ++ (l.map encR).flatten ≠ [] := by
          intro hh
          have h2 := congrArg List.length hh
          rw [List.length_append, encR_len] at h2
          simp at h2
          omega
        have hbad : badR (encR r ++ (l.map encR).flatten) p = false := by
          unfold badR
          rw [h3]
          simp
          omega
        have hd : (encR r ++ (l.map encR).flatten).drop (lenR r) = (l.map encR).flatten := by rw [← encR_len r, List.drop_left]
        rw [runesL_good _ _ hne hbad, h3] at hn
        dsimp only at hn
        rw [hd] at hn
        exact ih (p + lenR r) (fun x hx => h x (by simp [hx])) (by rcases List.mem_cons.1 h0 with h | h; exact absurd h.symm hr; exact h) hn (by omega)
  · by_cases hs : (l.map encR).flatten = []
    · obtain ⟨r, hr⟩ : ∃ r, r ∈ l := ⟨0, h0⟩
      have : encR r = [] := by
        have := List.flatten_eq_nil_iff.1 hs (encR r) (List.mem_map.2 ⟨r, hr, rfl⟩)
        exact this
      have h2 := congrArg List.length this
      rw [encR_len] at h2
      have := lenR_bd r
      simp at h2
      omega
    · have := g3 hs
      omega
end Go.Proofs.Ytjgflihokbmhiaa
