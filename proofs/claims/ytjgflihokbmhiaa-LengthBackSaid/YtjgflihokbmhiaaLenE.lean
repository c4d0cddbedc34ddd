/- Contracts of the reference of layer 15: Read, Raw. -/
import Derived.Test.YtjgflihokbmhiaaLenD
namespace Go.Proofs.Ytjgflihokbmhiaa
open Go.RowKit Go.Shelf

theorem idxOf_take {α : Type} (p : α → Bool) (l : List α) (m k : Nat) (hm : k < m) (hk : k < l.length) (h : ∀ j (hj : j < k), p (l[j]'(by omega)) = false) (hp : p l[k] = true) : idxOf p (l.take m) = k :=
  idxOf_at p (l.take m) k (by simp; omega) (fun j hj => by simpa using h j hj) (by simpa using hp)
theorem idxOf_take_none {α : Type} (p : α → Bool) (l : List α) (m : Nat) (h : ∀ j (hj : j < l.length), j < m → p l[j] = false) : idxOf p (l.take m) = -1 :=
  idxOf_none p _ (fun x hx => by
    obtain ⟨j, hj, rfl⟩ := List.getElem_of_mem hx
    have hj' : j < m ∧ j < l.length := by simpa [Nat.lt_min] using hj
    simpa using h j hj'.2 hj'.1)

theorem pow128 (k : Nat) : (128 : Nat) ^ k = if k = 0 then 1 else if k = 1 then 128 else if k = 2 then 16384 else if k = 3 then 2097152 else 128 ^ k := by
  split
  · simp_all
  · split
    · simp_all
    · split
      · simp_all
      · split <;> simp_all

theorem sizeL_nat (z : Nat) (h : z < 268435456) : sizeL (z : Int) = if z < 128 then 1 else if z < 16384 then 2 else if z < 2097152 then 3 else 4 := by
  have hm : mayL (z : Int) = true := (mayL_iff _).2 ⟨by omega, by omega⟩
  simp only [sizeL, hm]
  rw [if_neg (by decide)]
  by_cases h1 : z < 128
  · rw [if_pos (by omega), if_pos h1]
  · rw [if_neg (by omega), if_neg h1]
    by_cases h2 : z < 16384
    · rw [if_pos (by omega), if_pos h2]
    · rw [if_neg (by omega), if_neg h2]
      by_cases h3 : z < 2097152
      · rw [if_pos (by omega), if_pos h3]
      · rw [if_neg (by omega), if_neg h3]

/-- How many bytes a sum of bytes and a last byte has. -/
theorem sizeL_last (t k x : Nat) (ht : t < 128 ^ k) (hk : k < 4) (hx : x < 128) : (sizeL ((t + 128 ^ k * x : Nat) : Int) = k + 1) ↔ (x ≠ 0 ∨ k = 0) := by
  have hk' : k = 0 ∨ k = 1 ∨ k = 2 ∨ k = 3 := by omega
  rcases hk' with rfl | rfl | rfl | rfl
  all_goals
    simp only [Nat.reducePow, Nat.pow_zero] at ht ⊢
    rw [sizeL_nat _ (by omega)]
    repeat' split
    all_goals (constructor <;> intro _)
    all_goals first | omega | exact Or.inr trivial

set_option maxRecDepth 100000 in
set_option maxHeartbeats 1000000 in
theorem ref_read (a : Option Addr) (n cap : Nat) (l : List UInt8) (w : World) (h : RowAt w a n cap (bs l)) :
    Calls Try.prog 14 #[.slice a n cap] w fun e w' => e = .returned (.tuple #[.int .i64 (readL l).1, .int .i64 (readL l).2.1, .int .i64 (readL l).2.2]) ∧ w = w' := by
  have hlen : l.length = n := by have := h.len; rwa [bs_len] at this
  have hle := h.le
  have hmax := h.max
  unfold maxLen at hmax
  have HL := hid hlen; clear hlen
  go_enter Try.func14, Try.ntmps14
  go_wp2
  go_loop [5, 6, 7, 8] (fun t o i _ => ∃ k : Nat, k ≤ n ∧ k ≤ 4 ∧ i = .int .i64 k ∧ t = .int .i64 (takenL (l.take k)) ∧ o = .int .i64 (128 ^ k : Nat) ∧ Hid (∀ j, j < k → 128 ≤ (l[j]?.getD 0).toNat)) (fun _ _ i _ => 4 - (intOf i).toNat)
  case atStart => exact ⟨0, Nat.zero_le _, by omega, rfl, rfl, rfl, fun j hj => absurd hj (Nat.not_lt_zero _)⟩
  case round =>
    obtain ⟨k, hk, hk4, rfl, rfl, rfl, hj⟩ := hrel
    have hp : ∀ j (hj' : j < k), (fun x : UInt8 => decide (x.toNat < 128)) (l[j]'(by have := HL.out; omega)) = false := fun j hj' => by
      have h1 := hj.out j hj'
      rw [List.getElem?_eq_getElem (by have := HL.out; omega)] at h1
      simpa using h1
    have HP := hid hp; clear hp
    by_cases hlt : k < 4
    · by_cases hkn : k = n
      · subst hkn
        have hR : readL l = (0, 0, 0) := by
          have hl := HL.out
          unfold readL
          rw [idxOf_take_none _ _ _ (fun j hj1 hj2 => HP.out j (by omega))]
          simp; omega
        have HR := hid hR; clear hR
        go_wp2
        go_ret3
        rw [HR.out]
        exact ⟨rfl, rfl⟩
      · have hkn' : k < n := by omega
        obtain ⟨b, off, ha, hcell⟩ := h.byte hkn'
        subst ha
        clear h
        obtain ⟨x, hX⟩ : ∃ x, x = l[k]?.getD 0 := ⟨_, rfl⟩
        rw [← hX] at hcell 
        have hxl : l[k]'(by have := HL.out; omega) = x := by rw [hX, List.getElem?_eq_getElem (by have := HL.out; omega)]; rfl
        have HX := hid hxl; clear hX hxl
        generalize hT : takenL (l.take k) = t at *
        have htk : t < 128 ^ k := by
          have h1 := takenL_lt (l.take k)
          rwa [hT, List.length_take, Nat.min_eq_left (by have := HL.out; omega)] at h1
        have hT1 : takenL (l.take (k + 1)) = t + 128 ^ k * (x.toNat % 128) := by
          rw [List.take_succ_eq_append_getElem (by have := HL.out; omega), takenL_snoc, HX.out, hT, List.length_take, Nat.min_eq_left (by have := HL.out; omega)]
        have HT := hid hT; clear hT
        have HT1 := hid hT1; clear hT1
        have hx : x.toNat < 256 := x.toNat_lt
        have hk' : k = 0 ∨ k = 1 ∨ k = 2 ∨ k = 3 := by omega
        by_cases hx128 : x.toNat < 128
        · have hmod : x.toNat % 128 = x.toNat := by omega
          have hidx : idxOf (fun x : UInt8 => decide (x.toNat < 128)) (l.take 4) = k := idxOf_take _ l 4 k hlt (by have := HL.out; omega) HP.out (by rw [HX.out]; simpa using hx128)
          have hR : readL l = if x.toNat ≠ 0 ∨ k = 0 then (((t + 128 ^ k * x.toNat : Nat) : Int), (k : Int) + 1, 0) else (0, 0, 250) := by
            have h2 := HT1.out
            rw [hmod] at h2
            unfold readL
            simp only [hidx, Int.toNat_natCast, h2]
            rw [if_neg (by omega)]
            have h3 := sizeL_last t k x.toNat htk hlt hx128
            by_cases h4 : x.toNat ≠ 0 ∨ k = 0
            · rw [if_pos h4, if_pos (h3.2 h4)]
            · rw [if_neg h4, if_neg (fun h5 => h4 (h3.1 h5))]
          have HR := hid hR; clear hR hidx
          clear hmod hx HT1
          generalize x.toNat = y at *

          rcases hk' with rfl | rfl | rfl | rfl
          all_goals
            simp only [Nat.reducePow, Nat.pow_zero, Nat.add_zero] at htk hcell
            rcases (show y = 0 ∨ 0 < y by omega) with rfl | hx0
            all_goals
              go_wp2
              go_ret3
              refine ⟨?_, rfl⟩
              have hR := HR.out
              clear HR HT HP HL HX
              first | rw [if_pos (Or.inr rfl)] at hR | rw [if_pos (Or.inr trivial)] at hR | rw [if_pos (Or.inl (Nat.pos_iff_ne_zero.1 hx0))] at hR | rw [if_neg (by decide)] at hR
              rw [hR]
              try simp
              try omega
        · have hT1 := HT1.out
          have HR := hid (show k = 3 → readL l = (0, 0, 250) from fun hk3 => by
            have hl := HL.out
            unfold readL
            rw [idxOf_take_none _ _ _ (fun j hj1 hj2 => by
              by_cases hjk : j < k
              · exact HP.out j hjk
              · obtain rfl : j = k := by omega
                simp only [HX.out]; simpa using hx128)]
            simp; omega)
          clear HT1
          have hx2 : x.toNat % 128 = x.toNat - 128 := by omega
          have HX128 := hid hx128
          have hx3 : 128 ≤ x.toNat := by omega
          clear hx128
          have hTT : t + 128 ^ k * (x.toNat % 128) < 268435456 := by
            have h1 := takenL_lt (l.take (k + 1))
            rw [hT1, List.length_take, Nat.min_eq_left (by have := HL.out; omega)] at h1
            have h2 : 128 ^ (k + 1) ≤ 128 ^ 4 := Nat.pow_le_pow_right (by decide) (by omega)
            omega
          have K1 := hid (show ∃ k1, k1 = k + 1 ∧ k1 ≤ n ∧ k1 ≤ 4 ∧ takenL (l.take k1) = t + 128 ^ k * (x.toNat % 128) ∧ ∀ j, j < k1 → 128 ≤ (l[j]?.getD 0).toNat from
            ⟨k + 1, rfl, by omega, by omega, hT1, fun j hj' => by
              by_cases he : j < k
              · exact hj.out j he
              · obtain rfl : j = k := by omega
                rw [List.getElem?_eq_getElem (by have := HL.out; omega), Option.getD_some, HX.out]; exact hx3⟩)
          clear hT1
          generalize hy : x.toNat = y at *
          have HY := hid hy; clear hy
          rcases hk' with rfl | rfl | rfl | rfl
          all_goals
            simp only [Nat.reducePow, Nat.pow_zero, Nat.add_zero] at htk hcell hTT
            go_wp2
            go_round
            case rel =>
              obtain ⟨k1, e1, e2, e3, e4, e5⟩ := K1.out
              simp only [Nat.zero_add, Nat.reduceAdd, Nat.reducePow] at e1 e4
              subst e1
              refine ⟨_, e2, e3, by go_num, ?_, by go_num, e5⟩
              rw [e4]
              simp
              try omega
            case measure => simp [intOf]
    · obtain rfl : k = 4 := by omega
      clear hlt
      have hR : readL l = (0, 0, 250) := by
        have hl := HL.out
        unfold readL
        rw [idxOf_take_none _ _ _ (fun j hj1 hj2 => HP.out j (by omega))]
        simp; omega
      have HR := hid hR; clear hR
      go_wp2
      go_ret3
      rw [HR.out]
      exact ⟨rfl, rfl⟩
end Go.Proofs.Ytjgflihokbmhiaa
