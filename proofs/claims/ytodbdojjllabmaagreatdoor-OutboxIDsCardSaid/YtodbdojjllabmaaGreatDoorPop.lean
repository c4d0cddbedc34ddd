/- Plain words on sets of numbers as bits of words: how many bits are set, a bit turned. No program in sight. -/
import Derived.Test.YtodbdojjllabmaaGreatDoorBase
namespace Go.Proofs.YtodbdojjllabmaaGreatDoor
open Go.RowKit Go.Shelf

/-- How many of the first n bits are set. -/
def popN : Nat → Nat → Nat
  | 0, _ => 0
  | n + 1, w => w % 2 + popN n (w / 2)

theorem popN_zero (n : Nat) : popN n 0 = 0 := by
  induction n with
  | zero => rfl
  | succ n ih => simp [popN, ih]
theorem and_half (a b : Nat) : (a &&& b) / 2 = a / 2 &&& b / 2 := by
  have := Nat.shiftRight_and_distrib (a := a) (b := b) (i := 1)
  simpa [Nat.shiftRight_succ] using this
theorem xor_half (a b : Nat) : (a ^^^ b) / 2 = a / 2 ^^^ b / 2 := by
  have := Nat.shiftRight_xor_distrib (a := a) (b := b) (i := 1)
  simpa [Nat.shiftRight_succ] using this
theorem and_low (a b : Nat) : (a &&& b) % 2 = a % 2 &&& b % 2 := by
  have := Nat.and_mod_two_pow (a := a) (b := b) (n := 1)
  simpa using this
theorem xor_low (a b : Nat) : (a ^^^ b) % 2 = a % 2 ^^^ b % 2 := by
  have := Nat.xor_mod_two_pow (a := a) (b := b) (n := 1)
  simpa using this
/-- Without its lowest bit it has one less. -/
theorem popN_and (n w : Nat) (h0 : w ≠ 0) (h : w < 2 ^ n) : popN n (w &&& (w - 1)) + 1 = popN n w := by
  induction n generalizing w with
  | zero => simp at h; omega
  | succ n ih =>
    simp only [popN]
    rw [and_low, and_half]
    rcases Nat.mod_two_eq_zero_or_one w with h1 | h1
    · have hk : w / 2 ≠ 0 := by omega
      have e1 : (w - 1) / 2 = w / 2 - 1 := by omega
      have := ih (w / 2) hk (by omega)
      rw [h1, e1]
      simp
      omega
    · have e1 : (w - 1) / 2 = w / 2 := by omega
      have e2 : (w - 1) % 2 = 0 := by omega
      rw [h1, e1, e2, Nat.and_self]
      simp
      omega
theorem popN_xor (n w k : Nat) (hk : k < n) : (w.testBit k = true → popN n (w ^^^ 2 ^ k) + 1 = popN n w) ∧ (w.testBit k = false → popN n (w ^^^ 2 ^ k) = popN n w + 1) := by
  induction n generalizing w k with
  | zero => omega
  | succ n ih =>
    simp only [popN]
    rw [xor_low, xor_half]
    cases k with
    | zero =>
      simp only [Nat.pow_zero, Nat.testBit_zero, decide_eq_true_eq, decide_eq_false_iff_not]
      have : (1 / 2 : Nat) = 0 := rfl
      rw [this, Nat.xor_zero]
      rcases Nat.mod_two_eq_zero_or_one w with h1 | h1 <;> rw [h1] <;> simp <;> omega
    | succ k =>
      have e1 : 2 ^ (k + 1) / 2 = 2 ^ k := by omega
      have e2 : 2 ^ (k + 1) % 2 = 0 := by omega
      rw [e1, e2, Nat.xor_zero]
      have := ih (w / 2) k (by omega)
      rw [Nat.testBit_succ]
      constructor
      · intro h; have := this.1 h; omega
      · intro h; have := this.2 h; omega

/-- How many bits the first n words have. -/
def tot : Nat → (Nat → Nat) → Nat
  | 0, _ => 0
  | n + 1, W => tot n W + popN 64 (W n)
def tog (W : Nat → Nat) (n : Nat) : Nat → Nat := fun i => if i = n / 64 then W i ^^^ 2 ^ (n % 64) else W i
theorem tot_other (W : Nat → Nat) (n m : Nat) (h : m ≤ n / 64) : tot m (tog W n) = tot m W := by
  induction m with
  | zero => rfl
  | succ m ih =>
    have : m ≠ n / 64 := by omega
    simp [tot, ih (by omega), tog, this]
theorem tot_tog (W : Nat → Nat) (n m : Nat) (h : n / 64 < m) : ((W (n / 64)).testBit (n % 64) = true → tot m (tog W n) + 1 = tot m W) ∧ ((W (n / 64)).testBit (n % 64) = false → tot m (tog W n) = tot m W + 1) := by
  have hk : n % 64 < 64 := Nat.mod_lt _ (by decide)
  have hp := popN_xor 64 (W (n / 64)) (n % 64) hk
  induction m with
  | zero => omega
  | succ m ih =>
    simp only [tot]
    rcases Nat.lt_or_ge (n / 64) m with h1 | h1
    · have h2 := ih h1
      have h3 : m ≠ n / 64 := by omega
      have h4 : tog W n m = W m := by simp [tog, h3]
      rw [h4]
      constructor
      · intro h; have := h2.1 h; omega
      · intro h; have := h2.2 h; omega
    · have h3 : m = n / 64 := by omega
      have h4 : tog W n m = W m ^^^ 2 ^ (n % 64) := by simp [tog, h3]
      rw [h4, tot_other W n m (by omega)]
      subst h3
      constructor
      · intro h; have := hp.1 h; omega
      · intro h; have := hp.2 h; omega

/-- The words have just these numbers. -/
structure SetIs (W : Nat → Nat) (ids : List Nat) : Prop where
  lt : ∀ i, W i < 18446744073709551616
  has : ∀ n, n < 65536 → (W (n / 64)).testBit (n % 64) = decide (n ∈ ids)
  tot : tot 1024 W = ids.length

theorem tot_le (W : Nat → Nat) (m : Nat) : tot m W ≤ 64 * m := by
  have hp : ∀ n x, popN n x ≤ n := by
    intro n
    induction n with
    | zero => intro x; simp [popN]
    | succ n ih => intro x; have := ih (x / 2); simp only [popN]; omega
  induction m with
  | zero => simp [tot]
  | succ m ih => have := hp 64 (W m); simp only [tot]; omega
theorem tot_zero (m : Nat) : tot m (fun _ => 0) = 0 := by
  induction m with
  | zero => rfl
  | succ m ih => simp [YtodbdojjllabmaaGreatDoor.tot, ih, popN_zero]
theorem SetIs.nil : SetIs (fun _ => 0) [] := ⟨fun _ => by decide, fun n _ => by simp, by simp [tot_zero]⟩
theorem SetIs.perm {W : Nat → Nat} {l l' : List Nat} (h : SetIs W l) (p : l.Perm l') : SetIs W l' :=
  ⟨h.lt, fun n hn => by rw [h.has n hn]; simp [p.mem_iff], by rw [h.tot, p.length_eq]⟩
theorem tog_lt {W : Nat → Nat} (h : ∀ i, W i < 18446744073709551616) (n : Nat) : ∀ i, tog W n i < 18446744073709551616 := by
  intro i
  unfold tog
  have hk : n % 64 < 64 := Nat.mod_lt _ (by decide)
  split
  · exact Nat.xor_lt_two_pow (n := 64) (h i) (Nat.pow_lt_pow_right (by decide) hk)
  · exact h i
theorem tog_bit (W : Nat → Nat) (n m : Nat) : (tog W n (m / 64)).testBit (m % 64) = ((W (m / 64)).testBit (m % 64) ^^ decide (m = n)) := by
  unfold tog
  by_cases h : m / 64 = n / 64
  · rw [if_pos h, Nat.testBit_xor, Nat.testBit_two_pow]
    have : (n % 64 = m % 64) = (m = n) := by
      apply propext
      constructor
      · intro h2; omega
      · intro h2; rw [h2]
    simp [this]
  · rw [if_neg h]
    have : m ≠ n := fun e => h (by rw [e])
    simp [this]
theorem SetIs.come {W : Nat → Nat} {l : List Nat} (h : SetIs W l) {n : Nat} (hn : n < 65536) (hnot : n ∉ l) : SetIs (tog W n) (n :: l) := by
  have hb : (W (n / 64)).testBit (n % 64) = false := by rw [h.has n hn]; simp [hnot]
  refine ⟨tog_lt h.lt n, fun m hm => ?_, ?_⟩
  · rw [tog_bit, h.has m hm]
    by_cases e : m = n
    · subst e; simp [hnot]
    · simp [e]
  · rw [(tot_tog W n 1024 (by omega)).2 hb, h.tot]; rfl
theorem SetIs.go {W : Nat → Nat} {l : List Nat} (h : SetIs W l) {n : Nat} (hn : n < 65536) (hin : n ∈ l) (hd : l.Nodup) : SetIs (tog W n) (l.erase n) := by
  have hb : (W (n / 64)).testBit (n % 64) = true := by rw [h.has n hn]; simp [hin]
  refine ⟨tog_lt h.lt n, fun m hm => ?_, ?_⟩
  · rw [tog_bit, h.has m hm]
    by_cases e : m = n
    · subst e; simp [hin, hd.not_mem_erase]
    · simp [e, List.mem_erase_of_ne e]
  · have := (tot_tog W n 1024 (by omega)).1 hb
    rw [List.length_erase_of_mem hin]
    rw [h.tot] at this
    have := List.length_pos_of_mem hin
    omega
theorem SetIs.le {W : Nat → Nat} {l : List Nat} (h : SetIs W l) (i : Nat) : (W i : Int) < 18446744073709551616 := by have := h.lt i; omega

def setCells (W : Nat → Nat) : Array Value := Array.ofFn fun i : Fin 1024 => .int .u64 (W i)
theorem setCells_get (W : Nat → Nat) (i : Nat) (h : i < 1024) : (setCells W)[i]? = some (.int .u64 (W i)) := by simp [setCells, h]
theorem setCells_size (W : Nat → Nat) : (setCells W).size = 1024 := by simp [setCells]
theorem setCells_tog (W : Nat → Nat) (n : Nat) : (setCells W).setIfInBounds (n / 64) (.int .u64 ((W (n / 64) ^^^ 2 ^ (n % 64) : Nat) : Int)) = setCells (tog W n) := by
  apply Array.ext_getElem?
  intro i
  rw [Array.getElem?_setIfInBounds, setCells_size]
  by_cases e : n / 64 = i
  · subst e
    by_cases h : n / 64 < 1024
    · simp [setCells_get _ _ h, tog, h]
    · simp [setCells, h]
  · have e' : ¬ i = n / 64 := fun h => e h.symm
    simp only [e, if_false]
    by_cases h : i < 1024
    · simp [setCells_get _ _ h, tog, e']
    · simp [setCells, h]
theorem setCells_zero : setCells (fun _ => 0) = Array.replicate 1024 (.int .u64 0) := by
  apply Array.ext
  · simp [setCells]
  · intro i h1 h2
    simp [setCells]


def nxt (z : Int) : Int := z % 65535 + 1
def firstI : Nat → Int → List Nat → Int
  | 0, z, _ => z
  | k + 1, z, ids => if z.toNat ∈ ids then firstI k (nxt z) ids else z
theorem nxt_range (z : Int) : 1 ≤ nxt z ∧ nxt z ≤ 65535 := by
  have q3 : 0 ≤ z % 65535 := Int.emod_nonneg _ (by omega)
  have q4 : z % 65535 < 65535 := Int.emod_lt_of_pos _ (by omega)
  unfold nxt; omega
theorem firstI_range (k : Nat) (z : Int) (ids : List Nat) (h : 1 ≤ z ∧ z ≤ 65535) : 1 ≤ firstI k z ids ∧ firstI k z ids ≤ 65535 := by
  induction k generalizing z with
  | zero => exact h
  | succ k ih =>
    unfold firstI
    split
    · exact ih _ (nxt_range z)
    · exact h
def itN : Nat → Int → Int
  | 0, z => z
  | k + 1, z => itN k (nxt z)
theorem itN_eq (k : Nat) (z : Int) (h : 1 ≤ z ∧ z ≤ 65535) : itN k z = (z - 1 + k) % 65535 + 1 := by
  induction k generalizing z with
  | zero => unfold itN; omega
  | succ k ih =>
    unfold itN
    rw [ih _ (nxt_range z)]
    unfold nxt
    omega
theorem firstI_in (n : Nat) (z : Int) (ids : List Nat) (h : (firstI n z ids).toNat ∈ ids) : ∀ k, k ≤ n → (itN k z).toNat ∈ ids := by
  induction n generalizing z with
  | zero =>
    intro k hk
    obtain rfl : k = 0 := by omega
    exact h
  | succ n ih =>
    unfold firstI at h
    split at h
    · rename_i hz
      intro k hk
      cases k with
      | zero => exact hz
      | succ k => exact ih _ h k (by omega)
    · rename_i hz; exact absurd h hz
theorem pigeon (l ids : List Nat) (hd : l.Nodup) (hs : ∀ x ∈ l, x ∈ ids) : l.length ≤ ids.length := by
  induction l generalizing ids with
  | nil => simp
  | cons x l ih =>
    have h1 := hs x (by simp)
    have h2 := ih (ids.erase x) (List.nodup_cons.1 hd).2 (fun y hy => (List.mem_erase_of_ne (fun e => (List.nodup_cons.1 hd).1 (by subst e; exact hy))).2 (hs y (by simp [hy])))
    rw [List.length_erase_of_mem h1] at h2
    have := List.length_pos_of_mem h1
    simp; omega
theorem firstI_free (z : Int) (ids : List Nat) (h : 1 ≤ z ∧ z ≤ 65535) (hl : ids.length < 65535) : (firstI ids.length z ids).toNat ∉ ids := by
  intro hin
  have h1 := firstI_in _ _ _ hin
  have h2 := pigeon ((List.range (ids.length + 1)).map fun k => (itN k z).toNat) ids ?_ ?_
  · simp at h2
    omega
  · rw [List.nodup_iff_pairwise_ne, List.pairwise_map]
    refine List.Pairwise.imp_of_mem ?_ (List.nodup_iff_pairwise_ne.1 List.nodup_range)
    intro a b ha hb hab he
    simp at ha hb
    rw [itN_eq _ _ h, itN_eq _ _ h] at he
    omega
  · intro x hx
    simp at hx
    obtain ⟨k, hk, rfl⟩ := hx
    exact h1 k (by omega)
end Go.Proofs.YtodbdojjllabmaaGreatDoor
