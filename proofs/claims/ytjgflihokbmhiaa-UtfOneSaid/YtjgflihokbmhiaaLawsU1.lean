/- The walk of the law UtfOne. -/
import Derived.Test.YtjgflihokbmhiaaUtfH
import Derived.Test.YtjgflihokbmhiaaUtfI
namespace Go.Proofs.Ytjgflihokbmhiaa
open Go.RowKit Go.Shelf

set_option maxRecDepth 100000 in
set_option maxHeartbeats 1000000 in
theorem one_no (r : Int) (w : World) (hm : mayR r = false) :
    Calls Try.prog 11 #[.int .i32 r] w fun e w' => e = .returned (.bool true) ∧ Below w.heap.size w w' := by
  have C1 := hid (utf_Raw (some ⟨w.heap.size, 0, none⟩) 1 1 [r] (w.alloc (.cells #[.int .i32 r] 21)) (RowAt.new w _ _ _ (by simp [maxLen])) (by omega))
  rw [rawU_not r hm] at C1
  have hr : r < 0 ∨ (55296 ≤ r ∧ r ≤ 57343) ∨ 1114111 < r := by
    simp [mayR] at hm
    omega
  clear hm
  rcases hr with h | ⟨h, h'⟩ | h
  all_goals
    first | have d1 : decide (r < 55296) = false := decide_eq_false (by omega) | skip
    first | have d2 : decide (r ≤ 1114111) = false := decide_eq_false (by omega) | skip
    go_enter Try.func11, Try.ntmps11
    go_wp2_with fail
    refine C1.out.mono ?_
    rintro e w1 ⟨rfl, hb1⟩
    have k1 := ((Below.refl _ w).alloc (Nat.le_refl _) (.cells #[.int .i32 r] 21)).trans (hb1.mono (by simp))
    go_wp2_with (go_at_call 17; refine (known12 _).mono ?_; rintro e w2 ⟨rfl, hb2⟩)
    go_ret
    exact ⟨rfl, k1.trans (hb2.mono k1.size)⟩

set_option maxRecDepth 100000 in
set_option maxHeartbeats 1000000 in
theorem one_zero (w : World) :
    Calls Try.prog 11 #[.int .i32 0] w fun e w' => e = .returned (.bool true) ∧ Below w.heap.size w w' := by
  have C1 := hid (utf_Raw (some ⟨w.heap.size, 0, none⟩) 1 1 [0] (w.alloc (.cells #[.int .i32 0] 21)) (RowAt.new w _ _ _ (by simp [maxLen])) (by omega))
  rw [rawU_zero] at C1
  go_enter Try.func11, Try.ntmps11
  go_wp2_with fail
  refine C1.out.mono ?_
  rintro e w1 ⟨rfl, hb1⟩
  have k1 := ((Below.refl _ w).alloc (Nat.le_refl _) (.cells #[.int .i32 0] 21)).trans (hb1.mono (by simp))
  go_wp2_with (go_at_call 17; refine (known12 _).mono ?_; rintro e w2 ⟨rfl, hb2⟩)
  go_ret
  exact ⟨rfl, k1.trans (hb2.mono k1.size)⟩

set_option maxRecDepth 100000 in
set_option maxHeartbeats 1000000 in
theorem one_yes (z : Int) (w : World) (hm : mayR z = true) (h0' : z ≠ 0) :
    Calls Try.prog 11 #[.int .i32 z] w fun e w' => e = .returned (.bool true) ∧ Below w.heap.size w w' := by
  obtain ⟨r, hz⟩ := Int.eq_ofNat_of_zero_le ((mayR_iff z).1 hm).1
  rw [hz] at hm h0'
  have h0 : r ≠ 0 := by omega
  clear h0'
  have C1 := hid (utf_Raw (some ⟨w.heap.size, 0, none⟩) 1 1 [(r : Int)] (w.alloc (.cells #[.int .i32 r] 21)) (RowAt.new w _ _ _ (by simp [maxLen])) (by omega))
  rw [rawU_one r h0 hm] at C1
  have hrl : (encR r).length = lenR r := encR_len r
  have hl4 := lenR_bd r
  have C2 := hid (fun W => utf_Runes (encR r) W (by omega) (wrongU_enc r h0 hm))
  rw [show runesI (encR r) = [(r : Int)] by unfold runesI; rw [runes_enc r h0 hm]; rfl] at C2
  have C3 := hid (fun W => utf_Wrong (encR r ++ [128]) W (by simp; omega))
  rw [wrongU_more r h0 hm] at C3
  have C4 := hid (fun W (h1 : lenR r ≠ 1) => utf_Wrong ((encR r).take (lenR r - 1)) W (by simp; omega))
  have HL4 := hid (fun (h1 : lenR r ≠ 1) => wrongU_less r h0 hm h1)
  have hcut := fun W => str_to (encR r) (lenR r - 1) (by omega) W
  have happ : (⟨(encR r).toArray⟩ : ByteArray) ++ ⟨#[128]⟩ = ⟨(encR r ++ [128]).toArray⟩ := str_app _ _
  generalize encR r ++ [128] = B2 at happ C3
  have hsz : ByteArray.size ⟨(encR r).toArray⟩ = lenR r := by rw [str_size, hrl]
  have hr := (mayR_iff r).1 hm
  have hcases : (r < 128 ∧ lenR r = 1) ∨ (128 ≤ r ∧ r < 2048 ∧ lenR r = 2) ∨ (2048 ≤ r ∧ r < 55296 ∧ lenR r = 3) ∨ (57343 < r ∧ r < 65536 ∧ lenR r = 3) ∨ (65536 ≤ r ∧ lenR r = 4) := by
    unfold lenR
    (repeat' split) <;> omega
  have hpos : 0 < z := by omega
  have hlt : z ≤ 1114111 := by omega
  have hcases : (z < 128 ∧ lenR r = 1) ∨ (128 ≤ z ∧ z < 2048 ∧ lenR r = 2) ∨ (2048 ≤ z ∧ z < 55296 ∧ lenR r = 3) ∨ (57343 < z ∧ z < 65536 ∧ lenR r = 3) ∨ (65536 ≤ z ∧ lenR r = 4) := by omega
  rw [← hz] at C1 C2
  generalize encR r = B at *
  generalize lenR r = n at *
  have HRL := hid hrl
  clear hrl hr h0 hl4 hm
  clear hz
  rcases hcases with ⟨h, rfl⟩ | ⟨h, h', rfl⟩ | ⟨h, h', rfl⟩ | ⟨h, h', rfl⟩ | ⟨h, rfl⟩
  · skip
    go_enter Try.func11, Try.ntmps11
    go_wp2_with fail
    refine C1.out.mono ?_
    rintro e w1 ⟨rfl, hb1⟩
    have k1 := ((Below.refl _ w).alloc (Nat.le_refl _) (.cells #[.int .i32 z] 21)).trans (hb1.mono (by simp))
    go_wp2_with fail
    refine (C2.out _).mono ?_
    rintro e w2 ⟨v2, rfl, how2, hb2⟩
    have k2 := k1.trans (hb2.mono k1.size)
    obtain ⟨a2, c2, rfl, hrow2⟩ := RowAt.of_own how2
    obtain ⟨b2, o2, rfl, hcell2⟩ := hrow2.num (i := 0) (by simp)
    have hc0 : w2.cell? ⟨b2, o2, none⟩ = some (.int .i32 z) := by simpa using hcell2
    clear hcell2
    go_wp2_with fail
    refine (C3.out _).mono ?_
    rintro e w3 ⟨rfl, hb3⟩
    have k3 := k2.trans (hb3.mono k2.size)
    go_wp2_with fail
    refine (known12 _).mono ?_
    rintro e w4 ⟨rfl, hb4⟩
    go_wp2
    go_ret
    exact ⟨rfl, k3.trans (hb4.mono k3.size)⟩
  · skip
    go_enter Try.func11, Try.ntmps11
    go_wp2_with fail
    refine C1.out.mono ?_
    rintro e w1 ⟨rfl, hb1⟩
    have k1 := ((Below.refl _ w).alloc (Nat.le_refl _) (.cells #[.int .i32 z] 21)).trans (hb1.mono (by simp))
    go_wp2_with fail
    refine (C2.out _).mono ?_
    rintro e w2 ⟨v2, rfl, how2, hb2⟩
    have k2 := k1.trans (hb2.mono k1.size)
    obtain ⟨a2, c2, rfl, hrow2⟩ := RowAt.of_own how2
    obtain ⟨b2, o2, rfl, hcell2⟩ := hrow2.num (i := 0) (by simp)
    have hc0 : w2.cell? ⟨b2, o2, none⟩ = some (.int .i32 z) := by simpa using hcell2
    clear hcell2
    have C4' := hid (fun W => C4.out W (by decide))
    have HL4' := HL4.out (by decide)
    rw [HL4'] at C4'
    clear HL4' HL4 C4
    go_wp2_with fail
    simp only [str_extract, List.drop_zero]
    simp only [Nat.reduceSub] at C4'
    refine (C4'.out _).mono ?_
    rintro e w3 ⟨rfl, hb3⟩
    have k3 := k2.trans (hb3.mono k2.size)
    go_wp2_with fail
    refine (C3.out _).mono ?_
    rintro e w4 ⟨rfl, hb4⟩
    have k4 := k3.trans (hb4.mono k3.size)
    go_wp2_with fail
    refine (known12 _).mono ?_
    rintro e w5 ⟨rfl, hb5⟩
    go_wp2
    go_ret
    exact ⟨rfl, k4.trans (hb5.mono k4.size)⟩
  · skip
    go_enter Try.func11, Try.ntmps11
    go_wp2_with fail
    refine C1.out.mono ?_
    rintro e w1 ⟨rfl, hb1⟩
    have k1 := ((Below.refl _ w).alloc (Nat.le_refl _) (.cells #[.int .i32 z] 21)).trans (hb1.mono (by simp))
    go_wp2_with fail
    refine (C2.out _).mono ?_
    rintro e w2 ⟨v2, rfl, how2, hb2⟩
    have k2 := k1.trans (hb2.mono k1.size)
    obtain ⟨a2, c2, rfl, hrow2⟩ := RowAt.of_own how2
    obtain ⟨b2, o2, rfl, hcell2⟩ := hrow2.num (i := 0) (by simp)
    have hc0 : w2.cell? ⟨b2, o2, none⟩ = some (.int .i32 z) := by simpa using hcell2
    clear hcell2
    have C4' := hid (fun W => C4.out W (by decide))
    have HL4' := HL4.out (by decide)
    rw [HL4'] at C4'
    clear HL4' HL4 C4
    go_wp2_with fail
    simp only [str_extract, List.drop_zero]
    simp only [Nat.reduceSub] at C4'
    refine (C4'.out _).mono ?_
    rintro e w3 ⟨rfl, hb3⟩
    have k3 := k2.trans (hb3.mono k2.size)
    go_wp2_with fail
    refine (C3.out _).mono ?_
    rintro e w4 ⟨rfl, hb4⟩
    have k4 := k3.trans (hb4.mono k3.size)
    go_wp2_with fail
    refine (known12 _).mono ?_
    rintro e w5 ⟨rfl, hb5⟩
    go_wp2
    go_ret
    exact ⟨rfl, k4.trans (hb5.mono k4.size)⟩
  · skip
    have d1 : decide (z < 55296) = false := decide_eq_false (by omega)
    go_enter Try.func11, Try.ntmps11
    go_wp2_with fail
    refine C1.out.mono ?_
    rintro e w1 ⟨rfl, hb1⟩
    have k1 := ((Below.refl _ w).alloc (Nat.le_refl _) (.cells #[.int .i32 z] 21)).trans (hb1.mono (by simp))
    go_wp2_with fail
    refine (C2.out _).mono ?_
    rintro e w2 ⟨v2, rfl, how2, hb2⟩
    have k2 := k1.trans (hb2.mono k1.size)
    obtain ⟨a2, c2, rfl, hrow2⟩ := RowAt.of_own how2
    obtain ⟨b2, o2, rfl, hcell2⟩ := hrow2.num (i := 0) (by simp)
    have hc0 : w2.cell? ⟨b2, o2, none⟩ = some (.int .i32 z) := by simpa using hcell2
    clear hcell2
    have C4' := hid (fun W => C4.out W (by decide))
    have HL4' := HL4.out (by decide)
    rw [HL4'] at C4'
    clear HL4' HL4 C4
    go_wp2_with fail
    simp only [str_extract, List.drop_zero]
    simp only [Nat.reduceSub] at C4'
    refine (C4'.out _).mono ?_
    rintro e w3 ⟨rfl, hb3⟩
    have k3 := k2.trans (hb3.mono k2.size)
    go_wp2_with fail
    refine (C3.out _).mono ?_
    rintro e w4 ⟨rfl, hb4⟩
    have k4 := k3.trans (hb4.mono k3.size)
    go_wp2_with fail
    refine (known12 _).mono ?_
    rintro e w5 ⟨rfl, hb5⟩
    go_wp2
    go_ret
    exact ⟨rfl, k4.trans (hb5.mono k4.size)⟩
  · skip
    have d1 : decide (z < 55296) = false := decide_eq_false (by omega)
    go_enter Try.func11, Try.ntmps11
    go_wp2_with fail
    refine C1.out.mono ?_
    rintro e w1 ⟨rfl, hb1⟩
    have k1 := ((Below.refl _ w).alloc (Nat.le_refl _) (.cells #[.int .i32 z] 21)).trans (hb1.mono (by simp))
    go_wp2_with fail
    refine (C2.out _).mono ?_
    rintro e w2 ⟨v2, rfl, how2, hb2⟩
    have k2 := k1.trans (hb2.mono k1.size)
    obtain ⟨a2, c2, rfl, hrow2⟩ := RowAt.of_own how2
    obtain ⟨b2, o2, rfl, hcell2⟩ := hrow2.num (i := 0) (by simp)
    have hc0 : w2.cell? ⟨b2, o2, none⟩ = some (.int .i32 z) := by simpa using hcell2
    clear hcell2
    have C4' := hid (fun W => C4.out W (by decide))
    have HL4' := HL4.out (by decide)
    rw [HL4'] at C4'
    clear HL4' HL4 C4
    go_wp2_with fail
    simp only [str_extract, List.drop_zero]
    simp only [Nat.reduceSub] at C4'
    refine (C4'.out _).mono ?_
    rintro e w3 ⟨rfl, hb3⟩
    have k3 := k2.trans (hb3.mono k2.size)
    go_wp2_with fail
    refine (C3.out _).mono ?_
    rintro e w4 ⟨rfl, hb4⟩
    have k4 := k3.trans (hb4.mono k3.size)
    go_wp2_with fail
    refine (known12 _).mono ?_
    rintro e w5 ⟨rfl, hb5⟩
    go_wp2
    go_ret
    exact ⟨rfl, k4.trans (hb5.mono k4.size)⟩
theorem walk_UtfOne (r : Int) (wr : (Lit.int .i32 r).wf = true) (w : World) :
    Calls Try.prog 11 #[.int .i32 r] w fun e w' => e = .returned (.bool true) ∧ Below w.heap.size w w' := by
  cases hm : mayR r with
  | false => exact one_no r w hm
  | true =>
    by_cases h0 : r = 0
    · subst h0; exact one_zero w
    · exact one_yes r w hm h0
end Go.Proofs.Ytjgflihokbmhiaa
