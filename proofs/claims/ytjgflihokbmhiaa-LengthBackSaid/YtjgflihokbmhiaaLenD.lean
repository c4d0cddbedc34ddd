/- Contracts of package length: taken, Read. -/
import Derived.Test.YtjgflihokbmhiaaLenC
namespace Go.Proofs.Ytjgflihokbmhiaa
open Go.RowKit Go.Shelf

/-- The number that bytes tell, seven bits each. -/
def takenL : List UInt8 → Nat
  | [] => 0
  | x :: l => x.toNat % 128 + 128 * takenL l
theorem takenL_snoc (l : List UInt8) (x : UInt8) : takenL (l ++ [x]) = takenL l + 128 ^ l.length * (x.toNat % 128) := by
  induction l with
  | nil => simp [takenL]
  | cons y l ih => 
    simp only [List.cons_append, takenL, ih, List.length_cons, Nat.pow_succ', Nat.mul_add, Nat.mul_assoc]
    omega
theorem takenL_lt (l : List UInt8) : takenL l < 128 ^ l.length := by
  induction l with
  | nil => simp [takenL]
  | cons y l ih => 
    simp only [takenL, List.length_cons, Nat.pow_succ']
    have := Nat.mod_lt y.toNat (show 128 > 0 by omega)
    omega

theorem wraps_i64 (n : Int) (h₀ : 0 ≤ n) (h₁ : n < 2 ^ 62) : IntKind.i64.wrap n = n := by rw [IntKind.wrap_i64]; omega
theorem u8_and127 (x : Int) (h₀ : 0 ≤ x) (h₁ : x < 256) : bits .and .u8 x 127 = x % 128 := bits_mask .u8 8 (by decide) wraps_u8 7 (by decide) x h₀ h₁
/-- Low bits and high ones, joined. -/
theorem i64_or_low (i t y : Nat) (ht : t < 2 ^ i) (hy : 2 ^ i * y < 2 ^ 62) (hi : i ≤ 62) : bits .or .i64 (t : Int) ((2 ^ i * y : Nat) : Int) = ((t + 2 ^ i * y : Nat) : Int) := by
  have ht' : t < 2 ^ 62 := Nat.lt_of_lt_of_le ht (Nat.pow_le_pow_right (by decide) hi)
  rw [(bits_nat .i64 62 (by decide) wraps_i64 t _ ht' hy).2, Nat.or_comm, ← Nat.two_pow_add_eq_or_of_lt ht y, Nat.add_comm]
theorem taken_step (t k : Nat) (x : UInt8) (ht : t < 128 ^ k) (hk : k < 4) :
    bits BinOp.or IntKind.i64 (t : Int) (wrap64 (wrap64 (bits BinOp.and IntKind.u8 (x.toNat : Int) 127) * 2 ^ (7 * k))) = ((t + 128 ^ k * (x.toNat % 128) : Nat) : Int) := by
  have hx : x.toNat < 256 := x.toNat_lt
  have h128 : ∀ j, 128 ^ j = 2 ^ (7 * j) := fun j => by rw [Nat.pow_mul]
  rw [u8_and127 _ (by omega) (by omega)]
  have hm : x.toNat % 128 < 128 := Nat.mod_lt _ (by decide)
  have h2 : 2 ^ (7 * k) * (x.toNat % 128) < 2 ^ 28 := by
    have h1 : 2 ^ (7 * k) ≤ 2 ^ 21 := Nat.pow_le_pow_right (by decide) (by omega)
    have h3 := Nat.mul_lt_mul_of_le_of_lt h1 hm (Nat.two_pow_pos _)
    exact h3
  have e1 : wrap64 ((x.toNat : Int) % 128) = ((x.toNat % 128 : Nat) : Int) := by unfold wrap64; omega
  rw [e1]
  have e2 : (((x.toNat % 128 : Nat) : Int) * 2 ^ (7 * k)) = ((2 ^ (7 * k) * (x.toNat % 128) : Nat) : Int) := by
    rw [Int.natCast_mul, Int.mul_comm]; simp
  rw [e2]
  have e3 : wrap64 ((2 ^ (7 * k) * (x.toNat % 128) : Nat) : Int) = ((2 ^ (7 * k) * (x.toNat % 128) : Nat) : Int) := by unfold wrap64; omega
  rw [e3, h128, i64_or_low (7 * k) t _ (by rw [← h128]; exact ht) (Nat.lt_of_lt_of_le h2 (by decide)) (by omega)]

set_option maxHeartbeats 400000 in
theorem len_taken (a : Option Addr) (n cap : Nat) (l : List UInt8) (w : World) (h : RowAt w a n cap (bs l)) (hn : n ≤ 4) :
    Calls Try.prog 34 #[.slice a n cap] w fun e w' => e = .returned (.int .i64 (takenL l)) ∧ w = w' := by
  have hlen : l.length = n := by have := h.len; rwa [bs_len] at this
  have HL := hid hlen; clear hlen
  go_enter Try.func34, Try.ntmps34
  go_wp2
  go_loop [3, 9] (fun t i => ∃ k : Nat, k ≤ n ∧ i = .int .i64 k ∧ t = .int .i64 (takenL (l.take k))) (fun _ i => n - (intOf i).toNat)
  case atStart => exact ⟨0, Nat.zero_le _, rfl, rfl⟩
  case round =>
    obtain ⟨k, hk, rfl, rfl⟩ := hrel
    by_cases hlt : k < n
    · obtain ⟨b, off, ha, hcell⟩ := h.byte hlt
      subst ha
      clear h
      obtain ⟨x, hX⟩ : ∃ x, x = l[k]?.getD 0 := ⟨_, rfl⟩
      rw [← hX] at hcell 
      have HX := hid hX; clear hX
      generalize hT : takenL (l.take k) = t at *
      have HT := hid hT; clear hT
      go_wp2
      go_round
      case rel =>
        refine ⟨k + 1, by omega, by go_num, ?_⟩
        have hl := HL.out
        have hlk : (l.take k).length = k := by simp; omega
        have hlt' := takenL_lt (l.take k)
        rw [HT.out, hlk] at hlt'
        rw [taken_step t k x hlt' (by omega), List.take_succ_eq_append_getElem (by omega), takenL_snoc, HT.out, hlk]
        have h1 := HX.out
        rw [List.getElem?_eq_getElem (by omega), Option.getD_some] at h1
        rw [h1]
      case measure => simp [intOf]; omega
    · obtain rfl : k = n := by omega
      clear hlt
      go_wp2
      go_ret
      have hl := HL.out
      rw [List.take_of_length_le (by omega)]
      exact ⟨rfl, rfl⟩

def readL (l : List UInt8) : Int × Int × Int :=
  let e := idxOf (fun x : UInt8 => decide (x.toNat < 128)) (l.take 4)
  if e < 0 then (if 4 ≤ l.length then (0, 0, 250) else (0, 0, 0))
  else if sizeL (takenL (l.take (e.toNat + 1))) = e.toNat + 1 then (takenL (l.take (e.toNat + 1)), e + 1, 0) else (0, 0, 250)

set_option maxHeartbeats 400000 in
theorem len_read (a : Option Addr) (n cap : Nat) (l : List UInt8) (w : World) (h : RowAt w a n cap (bs l)) :
    Calls Try.prog 13 #[.slice a n cap] w fun e w' => e = .returned (.tuple #[.int .i64 (readL l).1, .int .i64 (readL l).2.1, .int .i64 (readL l).2.2]) ∧ Below w.heap.size w w' := by
  have hlen : l.length = n := by have := h.len; rwa [bs_len] at this
  have hle := h.le
  have hmax := h.max
  unfold maxLen at hmax
  have HC := indexFunc_byte 33 #[] (fun x => decide (x.toNat < 128)) a (min n 4) cap (l.take 4) w (by
    have := h.take (min n 4) (Nat.min_le_left _ _)
    rw [bs_take, show l.take (min n 4) = l.take 4 from by
      rcases Nat.le_total n 4 with h1 | h1
      · rw [Nat.min_eq_left h1, List.take_of_length_le (by omega), List.take_of_length_le (by omega)]
      · rw [Nat.min_eq_right h1]] at this
    exact this) (enters_of Try.func33 (by kernel_rfl) rfl) (fun x => len_read1 x w)
  obtain ⟨E, hE⟩ : ∃ E, E = idxOf (fun x : UInt8 => decide (x.toNat < 128)) (l.take 4) := ⟨_, rfl⟩
  have hr := idxOf_lt (fun x : UInt8 => decide (x.toNat < 128)) (l.take 4)
  rw [← hE] at HC hr
  have hr1 : E < n := by have h1 := hr.1; simp at h1; omega
  have hr2 : E < 4 := by have h1 := hr.1; simp at h1; omega
  have hr3 := hr.2
  clear hr
  have hR : readL l = if E < 0 then (if 4 ≤ n then (0, 0, 250) else (0, 0, 0)) else if sizeL (takenL (l.take (E.toNat + 1))) = E.toNat + 1 then (((takenL (l.take (E.toNat + 1)) : Nat) : Int), E + 1, 0) else (0, 0, 250) := by
    rw [hE, ← hlen]; rfl
  have HR := hid hR
  have HE := hid hE
  have HL := hid hlen
  clear hR hE hlen
  rcases Int.lt_or_le E 0 with hE0 | hE0
  · rw [if_pos hE0] at HR
    have h4 : n < 4 ∨ n = 4 ∨ 4 < n := by omega
    rcases h4 with h4 | rfl | h4
    all_goals
      first | rw [if_pos (show 4 ≤ 4 from Nat.le_refl _)] at HR | rw [if_pos (show 4 ≤ n by omega)] at HR | rw [if_neg (show ¬ 4 ≤ n by omega)] at HR
      first | rw [show min 4 4 = 4 from rfl] at HC | rw [show min n 4 = 4 from by omega] at HC | rw [show min n 4 = n from by omega] at HC
      have HC := hid HC
      go_enter Try.func13, Try.ntmps13
      go_wp2_with fail
      refine HC.out.mono ?_
      rintro e w' ⟨rfl, rfl⟩
      go_wp2
      go_ret3
      rw [HR.out]
      exact ⟨rfl, Below.refl _ _⟩
  · obtain ⟨q, rfl⟩ := Int.eq_ofNat_of_zero_le hE0
    rw [if_neg (show ¬ (q : Int) < 0 by omega)] at HR
    have HT := hid (len_taken a (q + 1) cap (l.take (q + 1)) w (by rw [← bs_take]; exact h.take _ (by omega)) (by omega))
    rw [Int.toNat_natCast] at HR
    generalize hz : takenL (l.take (q + 1)) = z at *
    have HZ := hid hz; clear hz
    have h4 : n < 4 ∨ n = 4 ∨ 4 < n := by omega
    rcases h4 with h4 | rfl | h4
    all_goals
      first | rw [show min 4 4 = 4 from rfl] at HC | rw [show min n 4 = 4 from by omega] at HC | rw [show min n 4 = n from by omega] at HC
      have HC := hid HC
      go_enter Try.func13, Try.ntmps13
      go_wp2_with fail
      refine HC.out.mono ?_
      rintro e w' ⟨rfl, rfl⟩
      go_wp2_with fail
      refine HT.out.mono ?_
      rintro e w' ⟨rfl, rfl⟩
      go_wp2_with fail
      refine (len_size _ _).mono ?_
      rintro e w2 ⟨rfl, hb2⟩
      by_cases hs : sizeL z = q + 1
      · have hs1 : ((sizeL (z : Int) : Int) == (q : Int) + 1) = true := by simp; omega
        have hs2 : ((sizeL (z : Int) : Int) != (q : Int) + 1) = false := by simp; omega
        rw [if_pos hs] at HR
        go_wp2
        go_ret3
        rw [HR.out]
        exact ⟨rfl, hb2⟩
      · have hs1 : ((sizeL (z : Int) : Int) == (q : Int) + 1) = false := by simp; omega
        have hs2 : ((sizeL (z : Int) : Int) != (q : Int) + 1) = true := by simp; omega
        rw [if_neg hs] at HR
        go_wp2
        go_ret3
        rw [HR.out]
        exact ⟨rfl, hb2⟩
end Go.Proofs.Ytjgflihokbmhiaa
