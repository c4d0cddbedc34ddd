/- Contracts of package inbox (part 3): at, Has, turn. -/
import Derived.Test.YtodbdojjllabmaaGreatDoorInB
import Derived.Test.YtodbdojjllabmaaGreatDoorTz
namespace Go.Proofs.YtodbdojjllabmaaGreatDoor
open Go.RowKit Go.Shelf

theorem pow_wrap (k : Nat) (h : k < 64) : IntKind.u64.wrap (2 ^ k) = 2 ^ k := by
  have : (2 : Nat) ^ k < 2 ^ 64 := Nat.pow_lt_pow_right (by decide) h
  have h2 : ((2 : Int) ^ k) = ((2 ^ k : Nat) : Int) := by simp
  rw [h2]
  generalize 2 ^ k = m at *
  simp only [IntKind.wrap_u64]
  omega

theorem pow_cast (k : Nat) : ((2 : Int) ^ k) = ((2 ^ k : Nat) : Int) := by simp
theorem bit_and (x k : Nat) (h : k < 64) (hx : x < 18446744073709551616) : decide (0 < bits BinOp.and IntKind.u64 (x : Int) (2 ^ k)) = x.testBit k := by
  have h2 : (2 : Nat) ^ k < 2 ^ 64 := Nat.pow_lt_pow_right (by decide) h
  rw [pow_cast, bits_and_u64_nat x _ hx h2]
  cases ht : x.testBit k with
  | false =>
    have : x &&& 2 ^ k = 0 := Nat.eq_of_testBit_eq fun j => by
      rw [Nat.testBit_and, Nat.testBit_two_pow, Nat.zero_testBit]
      by_cases e : k = j
      · subst e; simp [ht]
      · simp [e]
    rw [this]; rfl
  | true =>
    have h3 : (x &&& 2 ^ k).testBit k = true := by simp [Nat.testBit_and, Nat.testBit_two_pow, ht]
    have h4 : 0 < x &&& 2 ^ k := Nat.pos_of_ne_zero fun e => by rw [e] at h3; simp at h3
    have h5 : (0 : Int) < ((x &&& 2 ^ k : Nat) : Int) := by omega
    exact decide_eq_true h5
theorem bit_xor (x k : Nat) (h : k < 64) (hx : x < 18446744073709551616) : bits BinOp.xor IntKind.u64 (x : Int) (2 ^ k) = ((x ^^^ 2 ^ k : Nat) : Int) := by
  have h2 : (2 : Nat) ^ k < 2 ^ 64 := Nat.pow_lt_pow_right (by decide) h
  rw [pow_cast, bits_xor_u64_nat x _ hx h2]

set_option maxRecDepth 100000 in
set_option maxHeartbeats 400000 in
theorem in_at (s : Nat) (z : Int) (w : World) (h0 : 1 ≤ z) (h1 : z ≤ 65535) :
    Calls Tryz.prog 102 #[.pointer (some ⟨s, 0, none⟩), .int .i64 z] w fun e w' => e = .returned (.tuple #[.pointer (some ⟨s, (z / 64).toNat, none⟩), .int .u64 (2 ^ (z % 64).toNat)]) ∧ Below w.heap.size w w' := by
  have q1 : z.tdiv 64 = z / 64 := by rw [Int.tdiv_eq_ediv_of_nonneg (by omega)]
  have q2 : z.tmod 64 = z % 64 := by rw [Int.tmod_eq_emod_of_nonneg (by omega)]
  have hp : (z % 64).toNat < 64 := by omega
  go_enter Tryz.func102, Tryz.ntmps102
  go_wp2
  go_region
  go_wp2
  go_returns
  rw [pow_wrap _ hp]
  exact ⟨rfl, (Below.refl _ w).drew⟩

set_option maxRecDepth 100000 in
set_option maxHeartbeats 400000 in
theorem in_Has (b s : Nat) (most : Int) (W : Nat → Nat) (ids : List Nat) (z : Int) (w : World) (hI : Inb w b s most W) (hS : SetIs W ids) (h0 : 1 ≤ z) (h1 : z ≤ 65535) :
    Calls Tryz.prog 52 #[.pointer (some ⟨b, 0, none⟩), .int .i64 z] w fun e w' => e = .returned (.bool (decide (z.toNat ∈ ids))) ∧ Below w.heap.size w w' := by
  have CN := in_none w b s most hI.at
  have CM := in_may z w
  have CA := in_at s z w h0 h1
  have hm : mayI z = true := by simp [mayI, h0, h1]
  rw [hm] at CM
  have k0 := hI.at.set
  obtain ⟨i, hi⟩ : ∃ i, (z / 64).toNat = i := ⟨_, rfl⟩
  obtain ⟨u, hu⟩ : ∃ u : Int, 2 ^ (z % 64).toNat = u := ⟨_, rfl⟩
  obtain ⟨x, hx⟩ : ∃ x : Int, (W i : Int) = x := ⟨_, rfl⟩
  have kc : w.cell? ⟨s, i, none⟩ = some (.int .u64 x) := by rw [hI.set.cell, setCells_get _ _ (by omega), hx]
  rw [hi, hu] at CA
  go_enter Tryz.func52, Tryz.ntmps52
  go_wp2_with (first
    | (go_at_call 50; refine CN.mono ?_; rintro e w1 ⟨rfl, rfl⟩)
    | (go_at_call 51; refine CM.mono ?_; rintro e w1 ⟨rfl, rfl⟩)
    | (go_at_call 102; refine CA.mono ?_; rintro e w1 ⟨rfl, hb⟩; have kc1 := (hb.cell (p := ⟨s, i, none⟩) hI.set.lt).trans kc))
  go_ret
  refine ⟨?_, hb⟩
  subst hx hu
  have hp : (z % 64).toNat < 64 := by omega
  rw [bit_and _ _ hp (hS.lt i)]
  have := hS.has z.toNat (by omega)
  rw [show z.toNat / 64 = i by omega, show z.toNat % 64 = (z % 64).toNat by omega] at this
  rw [this]
  rfl

set_option maxRecDepth 100000 in
set_option maxHeartbeats 400000 in
theorem in_turn (b s : Nat) (most : Int) (W : Nat → Nat) (z : Int) (w : World) (hI : Inb w b s most W) (hW : ∀ i, W i < 18446744073709551616) (h0 : 1 ≤ z) (h1 : z ≤ 65535) :
    Calls Tryz.prog 53 #[.pointer (some ⟨b, 0, none⟩), .int .i64 z] w fun e w' => e = .returned (.tuple #[]) ∧ Inb w' b s most (tog W z.toNat) ∧ Wrote [s] w w' := by
  have CA := in_at s z w h0 h1
  have k0 := hI.at.set
  obtain ⟨i, hi⟩ : ∃ i, (z / 64).toNat = i := ⟨_, rfl⟩
  obtain ⟨u, hu⟩ : ∃ u : Int, 2 ^ (z % 64).toNat = u := ⟨_, rfl⟩
  obtain ⟨x, hx⟩ : ∃ x : Int, (W i : Int) = x := ⟨_, rfl⟩
  have kc : w.cell? ⟨s, i, none⟩ = some (.int .u64 x) := by rw [hI.set.cell, setCells_get _ _ (by omega), hx]
  rw [hi, hu] at CA
  go_enter Tryz.func53, Tryz.ntmps53
  go_wp2_with (go_at_call 102; refine CA.mono ?_; rintro e w1 ⟨rfl, hb⟩; have hs1 := hI.set.below hb; have kc1 := (hb.cell (p := ⟨s, i, none⟩) hI.set.lt).trans kc; have kf := hs1.frozen i)
  go_end0
  have hp : (z % 64).toNat < 64 := by omega
  refine ⟨rfl, ⟨(hI.box.below hb).set_ne _ (hI.set.ne hI.box (by decide)) _, ?_⟩, (Wrote.of_below hb).trans (Wrote.setCell w1 ⟨s, i, none⟩ (by simp) _)⟩
  have h3 := hs1.set i (.int .u64 (bits BinOp.xor IntKind.u64 x u))
  rw [← hx, ← hu, bit_xor _ _ hp (hW i), ← show z.toNat / 64 = i by omega, ← show z.toNat % 64 = (z % 64).toNat by omega, setCells_tog] at h3
  rw [← hx, ← hu, bit_xor _ _ hp (hW i), ← show z.toNat / 64 = i by omega, ← show z.toNat % 64 = (z % 64).toNat by omega]
  exact h3
end Go.Proofs.YtodbdojjllabmaaGreatDoor
