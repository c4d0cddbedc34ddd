/- The walk of the law LengthOrder. -/
import Derived.Test.YtjgflihokbmhiaaLenH
import Derived.Test.YtjgflihokbmhiaaRow
namespace Go.Proofs.Ytjgflihokbmhiaa
open Go.RowKit Go.Shelf

theorem sizeL_div (q : Nat) (h : q < 268435456) : sizeL (q : Int) = 1 + (if q / 128 = 0 then 0 else sizeL ((q / 128 : Nat) : Int)) := by
  rw [sizeL_nat q h, sizeL_nat (q / 128) (by omega)]
  repeat' split
  all_goals omega
theorem sizeL_zero (n : Int) : sizeL n = 0 ↔ mayL n = false := by
  unfold sizeL
  constructor
  · intro h
    by_cases hm : mayL n = false
    · exact hm
    · rw [if_neg hm] at h
      repeat' split at h
      all_goals omega
  · intro h; rw [if_pos h]
theorem sizeL_mono (a b : Int) (ha : mayL a = true) (hb : mayL b = true) (h : a ≤ b) : sizeL a ≤ sizeL b := by
  obtain ⟨h1, h2⟩ := (mayL_iff a).1 ha
  obtain ⟨h3, h4⟩ := (mayL_iff b).1 hb
  obtain ⟨x, rfl⟩ := Int.eq_ofNat_of_zero_le h1
  obtain ⟨y, rfl⟩ := Int.eq_ofNat_of_zero_le h3
  rw [sizeL_nat x (by omega), sizeL_nat y (by omega)]
  repeat' split
  all_goals omega

set_option maxRecDepth 100000 in
set_option maxHeartbeats 1000000 in
theorem walk_LengthOrder (a : Int) (wa : (Lit.int .i64 a).wf = true) (b : Int) (wb : (Lit.int .i64 b).wf = true) (w : World) :
    Calls Try.prog 4 #[.int .i64 a, .int .i64 b] w fun e w' => e = .returned (.bool true) ∧ Below w.heap.size w w' := by
  have C1 := hid (len_size a)
  have C2 := hid (len_size b)
  have z1 := sizeL_zero a
  have z2 := sizeL_zero b
  have l1 := sizeL_le a
  have l2 := sizeL_le b
  by_cases hm : mayL a = true ∧ mayL b = true
  · obtain ⟨ha, hb⟩ := hm
    have p1 : 0 < sizeL a := by rw [ha] at z1; simp at z1; omega
    have p2 : 0 < sizeL b := by rw [hb] at z2; simp at z2; omega
    have hmono := sizeL_mono a b ha hb
    have CA := hid (fun W : World => len_all (some ⟨W.heap.size, 0, none⟩) 2 2 [a, b] (W.alloc (.cells #[.int .i64 a, .int .i64 b] 2)) (RowAt.new W _ _ _ (by simp [maxLen])) (by decide) (by simp [ha, hb]))
    obtain ⟨h1, h2⟩ := (mayL_iff a).1 ha
    have hAll : (allL [a, b]).length = sizeL a + sizeL b := by simp [allL, rawL_len]
    obtain ⟨m, rfl⟩ := Int.eq_ofNat_of_zero_le h1
    have hdiv := fun q h => sizeL_div q h
    have h0 := sizeL_div m (by omega)
    clear z1 z2 ha hb h1
    generalize hsa : sizeL (m : Int) = sa at *
    generalize hsb : sizeL b = sb at *
    have HSA := hid hsa; have HD := hid hdiv; have H0 := hid h0; have HAll := hid hAll
    clear hsa hsb hdiv h0 hAll
    have e1 : ((sa : Int) == 0) = false := by simp; omega
    have e2 : ((sb : Int) == 0) = false := by simp; omega
    have hq : decide ((m : Int) ≤ b) = true ∧ sa ≤ sb ∨ decide ((m : Int) ≤ b) = false := by
      by_cases h : (m : Int) ≤ b
      · exact .inl ⟨by simpa using h, hmono h⟩
      · exact .inr (by simpa using h)
    clear hmono
    rcases hq with ⟨hle, hss⟩ | hle
    all_goals
      go_enter Try.func4, Try.ntmps4
      go_wp2_with fail
      refine (C1.out _).mono ?_
      rintro e w1 ⟨rfl, hb1⟩
      go_wp2_with fail
      refine (C2.out _).mono ?_
      rintro e w2 ⟨rfl, hb2⟩
      go_wp2_with fail
      refine (CA.out _).mono ?_
      rintro e w3 ⟨v, rfl, ho, hb3⟩
      rw [HAll.out] at ho
      obtain ⟨av, cv, rfl, -⟩ := RowAt.of_own ho
      go_wp2_with fail
      go_loop [11, 12] (fun t i => ∃ k q : Nat, i = .int .i64 q ∧ t = .int .i64 k ∧ q < 268435456 ∧ k ≤ 4 ∧ Hid (sa = k + (if q = 0 then 0 else sizeL (q : Int)))) (fun _ i => (intOf i).toNat)
      case atStart => exact ⟨1, m / 128, by first | rfl | simp, rfl, by omega, by omega, H0.out⟩
      case round =>
        obtain ⟨k, q, rfl, rfl, hq, hk, hI⟩ := hrel
        rcases (show q = 0 ∨ 0 < q by omega) with rfl | hq0
        · have hsk : sa = k := by have h := hI.out; simpa using h
          clear hI
          subst hsk
          go_wp2_with fail
          refine (known15 _).mono ?_
          rintro e w4 ⟨rfl, hb4⟩
          go_wp2
          go_ret
          refine ⟨rfl, ?_⟩
          have hb12 := hb1.trans (hb2.mono hb1.size)
          have hb13 := hb12.trans ((((Below.refl _ _).alloc (Nat.le_refl _) _).trans (hb3.mono (by simp))).mono hb12.size)
          exact hb13.trans (hb4.mono hb13.size)
        · have hI' := hI.out
          rw [if_neg (by omega), HD.out q hq] at hI'
          have hk4 : k + 1 ≤ 4 := by omega
          have HI := hid hI'
          clear hI'
          go_wp2
          go_round
          case rel =>
            refine ⟨k + 1, q / 128, by go_num, by go_num, by omega, hk4, ?_⟩
            have h := HI.out
            show sa = k + 1 + _
            omega
          case measure => simp [intOf]; omega
  · have hz : sizeL a = 0 ∨ (0 < sizeL a ∧ sizeL b = 0) := by
      by_cases ha : mayL a = true
      · have hb : mayL b = false := by
          cases h : mayL b
          · rfl
          · exact absurd ⟨ha, h⟩ hm
        refine .inr ⟨?_, z2.2 hb⟩
        rcases Nat.eq_zero_or_pos (sizeL a) with h | h
        · rw [z1.1 h] at ha; cases ha
        · exact h
      · exact .inl (z1.2 (by simpa using ha))
    have hidx : 0 ≤ idxOf (fun x => !mayL x) [a, b] := by
      cases ha : mayL a
      · simp [idxOf, ha]
      · cases hb : mayL b
        · simp [idxOf, ha, hb]
        · exact absurd ⟨ha, hb⟩ hm
    have CA := hid (fun W : World => len_all_no (some ⟨W.heap.size, 0, none⟩) 2 2 [a, b] (W.alloc (.cells #[.int .i64 a, .int .i64 b] 2)) (RowAt.new W _ _ _ (by simp [maxLen])) hidx)
    clear z1 z2 hidx hm
    generalize hsa : sizeL a = sa at *
    generalize hsb : sizeL b = sb at *
    have HSA := hid hsa; have HSB := hid hsb
    clear hsa hsb
    have he : ((sa : Int) == 0) = true ∨ (((sa : Int) == 0) = false ∧ ((sb : Int) == 0) = true) := by
      rcases hz with h | ⟨h1, h2⟩
      · exact .inl (by simp; omega)
      · exact .inr ⟨by simp; omega, by simp; omega⟩
    clear hz
    rcases he with e1 | ⟨e1, e2⟩
    all_goals
      go_enter Try.func4, Try.ntmps4
      go_wp2_with fail
      refine (C1.out _).mono ?_
      rintro e w1 ⟨rfl, hb1⟩
      go_wp2_with fail
      refine (C2.out _).mono ?_
      rintro e w2 ⟨rfl, hb2⟩
      go_wp2_with fail
      refine (CA.out _).mono ?_
      rintro e w3 ⟨rfl, rfl⟩
      go_wp2_with fail
      refine (known15 _).mono ?_
      rintro e w4 ⟨rfl, hb4⟩
      go_wp2
      go_ret
      refine ⟨rfl, ?_⟩
      have hb12 := hb1.trans (hb2.mono hb1.size)
      have hb13 := hb12.trans (((Below.refl _ w2).alloc (Nat.le_refl _) (.cells #[.int .i64 a, .int .i64 b] 2)).mono hb12.size)
      exact hb13.trans (hb4.mono (by have := hb12.size; simp; omega))
end Go.Proofs.Ytjgflihokbmhiaa
