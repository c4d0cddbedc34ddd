/- The walk of the law UtfParts. -/
import Derived.Test.YtjgflihokbmhiaaUtfH
import Derived.Test.YtjgflihokbmhiaaUtfJ
namespace Go.Proofs.Ytjgflihokbmhiaa
open Go.RowKit Go.Shelf

theorem checkU_ok (s : List UInt8) (h : wrongU s = -1) : checkU s = 0 := by unfold checkU; rw [h]; rfl
theorem checkU_no (s : List UInt8) (h : 0 ≤ wrongU s) : checkU s = 220 := by unfold checkU; rw [if_pos h]

set_option maxRecDepth 100000 in
set_option maxHeartbeats 1000000 in
theorem parts_long (a b : List UInt8) (w : World) (h : 3000 < a.length ∨ (a.length ≤ 3000 ∧ 3000 < b.length)) (ha : a.length ≤ 9223372036854775807) (hb : b.length ≤ 9223372036854775807) :
    Calls Try.prog 6 #[.string ⟨a.toArray⟩, .string ⟨b.toArray⟩] w fun e w' => e = .returned (.bool true) ∧ Below w.heap.size w w' := by
  have hsa : ByteArray.size ⟨a.toArray⟩ = a.length := str_size a
  have hsb : ByteArray.size ⟨b.toArray⟩ = b.length := str_size b
  rcases h with h | ⟨h, h'⟩
  all_goals
    go_enter Try.func6, Try.ntmps6
    go_wp2_with fail
    refine (known12 _).mono ?_
    rintro e w1 ⟨rfl, hb1⟩
    go_wp2
    go_ret
    exact ⟨rfl, hb1⟩

set_option maxRecDepth 100000 in
set_option maxHeartbeats 2000000 in
theorem parts_xy (a b : List UInt8) (w : World) (h1 : a.length ≤ 3000) (h2 : b.length ≤ 3000) (hx : wrongU a = -1) (hy : wrongU b = -1) :
    Calls Try.prog 6 #[.string ⟨a.toArray⟩, .string ⟨b.toArray⟩] w fun e w' => e = .returned (.bool true) ∧ Below w.heap.size w w' := by
  have hsa : ByteArray.size ⟨a.toArray⟩ = a.length := str_size a
  have hsb : ByteArray.size ⟨b.toArray⟩ = b.length := str_size b
  have hz := (parts_right a b (by omega) hx).1 hy
  have hcl : (a ++ b).length ≤ 1000000 := by simp; omega
  have happ : (⟨a.toArray⟩ : ByteArray) ++ ⟨b.toArray⟩ = ⟨(a ++ b).toArray⟩ := str_app _ _
  have CA := hid (fun W => utf_Check a W (by omega))
  have CB := hid (fun W => utf_Check b W (by omega))
  have CC := hid (fun W => utf_Check (a ++ b) W hcl)
  rw [checkU_ok a hx] at CA
  rw [checkU_ok b hy] at CB
  rw [checkU_ok _ hz.1] at CC
  have PA := hid (fun W => utf_Plain a W (by omega))
  have PB := hid (fun W => utf_Plain b W (by omega))
  have PC := hid (fun W => utf_Plain (a ++ b) W hcl)
  rw [hz.2] at PC
  have WA := hid (fun W => utf_Wrong a W (by omega))
  have WB := hid (fun W => utf_Wrong b W (by omega))
  have WC := hid (fun W => utf_Wrong (a ++ b) W hcl)
  rw [hx] at WA
  rw [hy] at WB
  rw [hz.1] at WC
  clear hz hx hy
  generalize a ++ b = c at *
  generalize plainU a = pa at *
  generalize plainU b = pb at *
  have hne : ¬ 3000 < a.length := by omega
  cases pa
  · rw [Bool.false_and] at PC
    go_enter Try.func6, Try.ntmps6
    go_wp2_with fail
    refine (CA.out _).mono ?_
    rintro e w1 ⟨rfl, k1⟩
    go_wp2_with fail
    refine (CB.out _).mono ?_
    rintro e w2 ⟨rfl, hb2⟩
    have k2 := k1.trans (hb2.mono k1.size)
    go_wp2_with fail
    refine (CC.out _).mono ?_
    rintro e w3 ⟨rfl, hb3⟩
    have k3 := k2.trans (hb3.mono k2.size)
    go_wp2_with fail
    refine (PC.out _).mono ?_
    rintro e w4 ⟨rfl, hb4⟩
    have k4 := k3.trans (hb4.mono k3.size)
    go_wp2_with fail
    refine (PA.out _).mono ?_
    rintro e w5 ⟨rfl, hb5⟩
    have k5 := k4.trans (hb5.mono k4.size)
    go_wp2_with fail
    refine (WA.out _).mono ?_
    rintro e w6 ⟨rfl, hb6⟩
    have k6 := k5.trans (hb6.mono k5.size)
    go_wp2_with fail
    refine (WB.out _).mono ?_
    rintro e w7 ⟨rfl, hb7⟩
    have k7 := k6.trans (hb7.mono k6.size)
    go_wp2_with fail
    refine (WC.out _).mono ?_
    rintro e w8 ⟨rfl, hb8⟩
    have k8 := k7.trans (hb8.mono k7.size)
    go_wp2_with fail
    refine (known12 _).mono ?_
    rintro e w9 ⟨rfl, hb9⟩
    go_wp2
    go_ret
    exact ⟨rfl, k8.trans (hb9.mono k8.size)⟩
  · rw [Bool.true_and] at PC
    cases pb
    all_goals
      go_enter Try.func6, Try.ntmps6
      go_wp2_with fail
      refine (CA.out _).mono ?_
      rintro e w1 ⟨rfl, k1⟩
      go_wp2_with fail
      refine (CB.out _).mono ?_
      rintro e w2 ⟨rfl, hb2⟩
      have k2 := k1.trans (hb2.mono k1.size)
      go_wp2_with fail
      refine (CC.out _).mono ?_
      rintro e w3 ⟨rfl, hb3⟩
      have k3 := k2.trans (hb3.mono k2.size)
      go_wp2_with fail
      refine (PC.out _).mono ?_
      rintro e w4 ⟨rfl, hb4⟩
      have k4 := k3.trans (hb4.mono k3.size)
      go_wp2_with fail
      refine (PA.out _).mono ?_
      rintro e w5 ⟨rfl, hb5⟩
      have k5 := k4.trans (hb5.mono k4.size)
      go_wp2_with fail
      refine (PB.out _).mono ?_
      rintro e w5' ⟨rfl, hb5'⟩
      have k5' := k5.trans (hb5'.mono k5.size)
      go_wp2_with fail
      refine (WA.out _).mono ?_
      rintro e w6 ⟨rfl, hb6⟩
      have k6 := k5'.trans (hb6.mono k5'.size)
      go_wp2_with fail
      refine (WB.out _).mono ?_
      rintro e w7 ⟨rfl, hb7⟩
      have k7 := k6.trans (hb7.mono k6.size)
      go_wp2_with fail
      refine (WC.out _).mono ?_
      rintro e w8 ⟨rfl, hb8⟩
      have k8 := k7.trans (hb8.mono k7.size)
      go_wp2_with fail
      refine (known12 _).mono ?_
      rintro e w9 ⟨rfl, hb9⟩
      go_wp2
      go_ret
      exact ⟨rfl, k8.trans (hb9.mono k8.size)⟩

set_option maxRecDepth 100000 in
set_option maxHeartbeats 2000000 in
theorem parts_x (a b : List UInt8) (w : World) (h1 : a.length ≤ 3000) (h2 : b.length ≤ 3000) (hx : wrongU a = -1) (n : Nat) (hy : wrongU b = n) :
    Calls Try.prog 6 #[.string ⟨a.toArray⟩, .string ⟨b.toArray⟩] w fun e w' => e = .returned (.bool true) ∧ Below w.heap.size w w' := by
  have hsa : ByteArray.size ⟨a.toArray⟩ = a.length := str_size a
  have hsb : ByteArray.size ⟨b.toArray⟩ = b.length := str_size b
  have hz := (parts_right a b (by omega) hx).2 n hy
  have hcl : (a ++ b).length ≤ 1000000 := by simp; omega
  have happ : (⟨a.toArray⟩ : ByteArray) ++ ⟨b.toArray⟩ = ⟨(a ++ b).toArray⟩ := str_app _ _
  have CA := hid (fun W => utf_Check a W (by omega))
  have CB := hid (fun W => utf_Check b W (by omega))
  have CC := hid (fun W => utf_Check (a ++ b) W hcl)
  rw [checkU_ok a hx] at CA
  rw [checkU_no b (by rw [hy]; omega)] at CB
  rw [checkU_no _ (by rw [hz]; omega)] at CC
  have WA := hid (fun W => utf_Wrong a W (by omega))
  have WB := hid (fun W => utf_Wrong b W (by omega))
  have WC := hid (fun W => utf_Wrong (a ++ b) W hcl)
  have hn : n ≤ 3000 := by
    have := wrongU_le b n hy
    omega
  rw [hx] at WA
  rw [hy] at WB
  rw [hz] at WC
  clear hz hx hy
  generalize a ++ b = c at *
  have hne : ¬ 3000 < a.length := by omega
  have hi1 : (0 : Int) ≤ (n : Int) := by omega
  have hi2 : (n : Int) ≤ 3000 := by omega
  go_enter Try.func6, Try.ntmps6
  go_wp2_with fail
  refine (CA.out _).mono ?_
  rintro e w1 ⟨rfl, k1⟩
  go_wp2_with fail
  refine (CB.out _).mono ?_
  rintro e w2 ⟨rfl, hb2⟩
  have k2 := k1.trans (hb2.mono k1.size)
  go_wp2_with fail
  refine (CC.out _).mono ?_
  rintro e w3 ⟨rfl, hb3⟩
  have k3 := k2.trans (hb3.mono k2.size)
  go_wp2_with fail
  refine (WA.out _).mono ?_
  rintro e w6 ⟨rfl, hb6⟩
  have k6 := k3.trans (hb6.mono k3.size)
  go_wp2_with fail
  refine (WB.out _).mono ?_
  rintro e w7 ⟨rfl, hb7⟩
  have k7 := k6.trans (hb7.mono k6.size)
  go_wp2_with fail
  refine (WC.out _).mono ?_
  rintro e w8 ⟨rfl, hb8⟩
  have k8 := k7.trans (hb8.mono k7.size)
  go_wp2_with fail
  refine (known12 _).mono ?_
  rintro e w9 ⟨rfl, hb9⟩
  go_wp2
  go_ret
  exact ⟨rfl, k8.trans (hb9.mono k8.size)⟩

set_option maxRecDepth 100000 in
set_option maxHeartbeats 2000000 in
theorem parts_n (a b : List UInt8) (w : World) (h1 : a.length ≤ 3000) (h2 : b.length ≤ 3000) (hx : 0 ≤ wrongU a) :
    Calls Try.prog 6 #[.string ⟨a.toArray⟩, .string ⟨b.toArray⟩] w fun e w' => e = .returned (.bool true) ∧ Below w.heap.size w w' := by
  have hsa : ByteArray.size ⟨a.toArray⟩ = a.length := str_size a
  have hsb : ByteArray.size ⟨b.toArray⟩ = b.length := str_size b
  have hz := parts_wrong a b (by omega) hx
  have hcl : (a ++ b).length ≤ 1000000 := by simp; omega
  have happ : (⟨a.toArray⟩ : ByteArray) ++ ⟨b.toArray⟩ = ⟨(a ++ b).toArray⟩ := str_app _ _
  have CA := hid (fun W => utf_Check a W (by omega))
  have CB := hid (fun W => utf_Check b W (by omega))
  have CC := hid (fun W => utf_Check (a ++ b) W hcl)
  rw [checkU_no a hx] at CA
  have WA := hid (fun W => utf_Wrong a W (by omega))
  have WC := hid (fun W => utf_Wrong (a ++ b) W hcl)
  generalize a ++ b = c at *
  have hne : ¬ 3000 < a.length := by omega
  have hnn : 0 ≤ wrongU a := hx
  generalize checkU b = cb at *
  generalize checkU c = cc at *
  generalize wrongU a = n at *
  rcases hz with hz | hz
  · rw [hz] at WC
    have HZ := hid hz
    have d1 : decide (n ≤ -1) = false := decide_eq_false (by omega)
    clear hz
    go_enter Try.func6, Try.ntmps6
    go_wp2_with fail
    refine (CA.out _).mono ?_
    rintro e w1 ⟨rfl, k1⟩
    go_wp2_with fail
    refine (CB.out _).mono ?_
    rintro e w2 ⟨rfl, hb2⟩
    have k2 := k1.trans (hb2.mono k1.size)
    go_wp2_with fail
    refine (CC.out _).mono ?_
    rintro e w3 ⟨rfl, hb3⟩
    have k3 := k2.trans (hb3.mono k2.size)
    go_wp2_with fail
    refine (WA.out _).mono ?_
    rintro e w6 ⟨rfl, hb6⟩
    have k6 := k3.trans (hb6.mono k3.size)
    go_wp2_with fail
    refine (WC.out _).mono ?_
    rintro e w8 ⟨rfl, hb8⟩
    have k8 := k6.trans (hb8.mono k6.size)
    go_wp2_with fail
    refine (known12 _).mono ?_
    rintro e w9 ⟨rfl, hb9⟩
    go_wp2
    go_ret
    exact ⟨rfl, k8.trans (hb9.mono k8.size)⟩
  · generalize wrongU c = m at *
    have d1 : decide (n ≤ m) = true := decide_eq_true hz
    go_enter Try.func6, Try.ntmps6
    go_wp2_with fail
    refine (CA.out _).mono ?_
    rintro e w1 ⟨rfl, k1⟩
    go_wp2_with fail
    refine (CB.out _).mono ?_
    rintro e w2 ⟨rfl, hb2⟩
    have k2 := k1.trans (hb2.mono k1.size)
    go_wp2_with fail
    refine (CC.out _).mono ?_
    rintro e w3 ⟨rfl, hb3⟩
    have k3 := k2.trans (hb3.mono k2.size)
    go_wp2_with fail
    refine (WA.out _).mono ?_
    rintro e w6 ⟨rfl, hb6⟩
    have k6 := k3.trans (hb6.mono k3.size)
    go_wp2_with fail
    refine (WC.out _).mono ?_
    rintro e w8 ⟨rfl, hb8⟩
    have k8 := k6.trans (hb8.mono k6.size)
    go_wp2_with fail
    refine (known12 _).mono ?_
    rintro e w9 ⟨rfl, hb9⟩
    go_wp2
    go_ret
    exact ⟨rfl, k8.trans (hb9.mono k8.size)⟩

theorem walk_UtfParts (a : ByteArray) (wa : a.size ≤ 9223372036854775807) (b : ByteArray) (wb : b.size ≤ 9223372036854775807) (w : World) :
    Calls Try.prog 6 #[.string a, .string b] w fun e w' => e = .returned (.bool true) ∧ Below w.heap.size w w' := by
  obtain ⟨⟨a⟩⟩ := a
  obtain ⟨⟨b⟩⟩ := b
  have ha : ByteArray.size ⟨⟨a⟩⟩ = a.length := rfl
  have hb : ByteArray.size ⟨⟨b⟩⟩ = b.length := rfl
  by_cases h1 : a.length ≤ 3000
  · by_cases h2 : b.length ≤ 3000
    · have h3 := wrongU_lo a
      have h4 := wrongU_lo b
      by_cases hx : wrongU a = -1
      · by_cases hy : wrongU b = -1
        · exact parts_xy a b w h1 h2 hx hy
        · obtain ⟨n, hn⟩ := Int.eq_ofNat_of_zero_le (show 0 ≤ wrongU b by omega)
          exact parts_x a b w h1 h2 hx n hn
      · exact parts_n a b w h1 h2 (by omega)
    · exact parts_long a b w (.inr ⟨h1, by omega⟩) (by omega) (by omega)
  · exact parts_long a b w (.inl (by omega)) (by omega) (by omega)
end Go.Proofs.Ytjgflihokbmhiaa
