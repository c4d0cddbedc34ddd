/- The walk of the law UtfReads. -/
import Derived.Test.YtjgflihokbmhiaaUtfH
import Derived.Test.YtjgflihokbmhiaaUtfN
import Derived.Test.YtjgflihokbmhiaaRow
namespace Go.Proofs.Ytjgflihokbmhiaa
open Go.RowKit Go.Shelf

theorem plainU_right (s : List UInt8) (h : wrongU s = -1) : plainU s = (runesL s 0).1.all fun r => !oddR r := by
  unfold plainU
  rw [(wrongU_iff s).1 h]
  simp
theorem plainU_wrong (s : List UInt8) (h : 0 ≤ wrongU s) : plainU s = false := by
  unfold plainU
  cases hn : (runesL s 0).2 with
  | none =>
    have := (wrongU_iff s).2 hn
    omega
  | some p => rfl
theorem chkU_ok (s : List UInt8) (h : wrongU s = -1) : checkU s = 0 := by unfold checkU; rw [h]; rfl
theorem chkU_no (s : List UInt8) (h : 0 ≤ wrongU s) : checkU s = 220 := by unfold checkU; rw [if_pos h]

set_option maxRecDepth 100000 in
set_option maxHeartbeats 2000000 in
theorem reads_wrong (s : List UInt8) (w : World) (hs : s.length ≤ 70000) (hx : 0 ≤ wrongU s) :
    Calls Try.prog 9 #[.string ⟨s.toArray⟩] w fun e w' => e = .returned (.bool true) ∧ Below w.heap.size w w' := by
  have hsz : ByteArray.size ⟨s.toArray⟩ = s.length := str_size s
  have C1 := hid (fun W => utf_Runes_no s W (by omega) hx)
  have C2 := hid (fun W => ref_Runes s W (by omega))
  have C3 := hid (fun W => utf_Wrong s W (by omega))
  have C4 := hid (fun W => utf_Check s W (by omega))
  rw [chkU_no s hx] at C4
  have C5 := hid (fun W => same12 none 0 0 [] none 0 0 [] W (RowAt.empty W) (RowAt.empty W) rfl)
  have C6 := hid (fun W => utf_Plain s W (by omega))
  rw [plainU_wrong s hx] at C6
  have HX := hid hx
  generalize hn : wrongU s = n at C3 HX hx
  have HN := hid hn
  clear hn
  have d1 : decide (n < 0) = false := decide_eq_false (by omega)
  go_enter Try.func9, Try.ntmps9
  go_wp2_with fail
  refine (C1.out _).mono ?_
  rintro e w1 ⟨rfl, k1⟩
  go_wp2_with fail
  refine (C2.out _).mono ?_
  rintro e w2 ⟨hb2, ⟨h1, -⟩ | ⟨-, rfl⟩⟩
  · exfalso
    have := HN.out
    omega
  rw [HN.out]
  have k2 := k1.trans (hb2.mono k1.size)
  go_wp2_with fail
  refine (C3.out _).mono ?_
  rintro e w3 ⟨rfl, hb3⟩
  have k3 := k2.trans (hb3.mono k2.size)
  go_wp2_with fail
  refine (C4.out _).mono ?_
  rintro e w4 ⟨rfl, hb4⟩
  have k4 := k3.trans (hb4.mono k3.size)
  go_wp2_with fail
  refine (C5.out _).mono ?_
  rintro e w5 ⟨rfl, hb5⟩
  have k5 := k4.trans (hb5.mono k4.size)
  go_wp2_with fail
  refine (C4.out _).mono ?_
  rintro e w6 ⟨rfl, hb6⟩
  have k6 := k5.trans (hb6.mono k5.size)
  go_wp2_with fail
  refine (C6.out _).mono ?_
  rintro e w7 ⟨rfl, hb7⟩
  have k7 := k6.trans (hb7.mono k6.size)
  go_wp2_with fail
  refine (known12 _).mono ?_
  rintro e w8 ⟨rfl, hb8⟩
  go_wp2
  go_ret
  exact ⟨rfl, k7.trans (hb8.mono k7.size)⟩

set_option maxRecDepth 100000 in
set_option maxHeartbeats 2000000 in
theorem reads_right (s : List UInt8) (w : World) (hs : s.length ≤ 70000) (hx : wrongU s = -1) :
    Calls Try.prog 9 #[.string ⟨s.toArray⟩] w fun e w' => e = .returned (.bool true) ∧ Below w.heap.size w w' := by
  have hsz : ByteArray.size ⟨s.toArray⟩ = s.length := str_size s
  have C1 := hid (fun W => utf_Runes s W (by omega) hx)
  have C2 := hid (fun W => ref_Runes s W (by omega))
  have C3 := hid (fun W => utf_Wrong s W (by omega))
  rw [hx] at C3
  have C4 := hid (fun W => utf_Check s W (by omega))
  rw [chkU_ok s hx] at C4
  have C6 := hid (fun W => utf_Plain s W (by omega))
  rw [plainU_right s hx] at C6
  have hlen : (runesI s).length ≤ 70000 := by
    unfold runesI
    rw [List.length_map]
    have := runesL_len s 0
    omega
  have C7 := hid (fun a n cap W h hn => utf_Raw a n cap (runesI s) W h hn)
  rw [rawU_runes s hx] at C7
  have C8 := hid (fun a n cap W h => ref_Plain a n cap (runesL s 0).1 W h (fun r hr => by
    have := (runesL_back s 0 ((wrongU_iff s).1 hx)).2.1 r hr
    have := (mayR_iff _).1 this.2
    omega))
  have HX := hid hx
  clear hx
  generalize ((runesL s 0).1.all fun r => !oddR r) = b at *
  go_enter Try.func9, Try.ntmps9
  go_wp2_with fail
  refine (C1.out _).mono ?_
  rintro e w1 ⟨v1, rfl, how1, k1⟩
  obtain ⟨a1, c1, rfl, hrow1⟩ := RowAt.of_own how1
  clear how1
  go_wp2_with fail
  refine (C2.out _).mono ?_
  rintro e w2 ⟨hb2, hcase⟩
  have hcase2 : ∃ v, e = .returned (.tuple #[v, .int .i64 (-1)]) ∧ w2.ownsRow w1.heap.size 21 1 v (runesI s).length (ns .i32 (runesI s)) := by
    rcases hcase with ⟨-, h⟩ | ⟨h1, -⟩
    · exact h
    · exfalso
      have := HX.out
      omega
  clear hcase
  obtain ⟨v2, rfl, how2⟩ := hcase2
  obtain ⟨a2, c2, rfl, hrow2⟩ := RowAt.of_own how2
  clear how2
  have k2 := k1.trans (hb2.mono k1.size)
  have r1 := hrow1.below hb2
  go_wp2_with fail
  refine (C3.out _).mono ?_
  rintro e w3 ⟨rfl, hb3⟩
  have k3 := k2.trans (hb3.mono k2.size)
  have r1 := r1.below hb3
  have r2 := hrow2.below hb3
  go_wp2_with fail
  refine (C4.out _).mono ?_
  rintro e w4 ⟨rfl, hb4⟩
  have k4 := k3.trans (hb4.mono k3.size)
  have r1 := r1.below hb4
  have r2 := r2.below hb4
  go_wp2_with fail
  refine (same12 _ _ _ _ _ _ _ _ _ r1 r2 rfl).mono ?_
  rintro e w5 ⟨rfl, hb5⟩
  have k5 := k4.trans (hb5.mono k4.size)
  have r1 := r1.below hb5
  have r2 := r2.below hb5
  go_wp2_with fail
  refine (C7.out _ _ _ _ r1 (by omega)).mono ?_
  rintro e w6 ⟨rfl, hb6⟩
  have k6 := k5.trans (hb6.mono k5.size)
  have r2 := r2.below hb6
  go_wp2_with fail
  refine (C6.out _).mono ?_
  rintro e w7 ⟨rfl, hb7⟩
  have k7 := k6.trans (hb7.mono k6.size)
  have r2 := r2.below hb7
  go_wp2_with fail
  refine (C8.out _ _ _ _ r2).mono ?_
  rintro e w8 ⟨rfl, rfl⟩
  go_wp2_with fail
  refine (known12 _).mono ?_
  rintro e w9 ⟨rfl, hb9⟩
  go_wp2
  go_ret
  exact ⟨rfl, k7.trans (hb9.mono k7.size)⟩

set_option maxRecDepth 100000 in
set_option maxHeartbeats 1000000 in
theorem walk_UtfReads (a : ByteArray) (wa : a.size ≤ 9223372036854775807) (w : World) :
    Calls Try.prog 9 #[.string a] w fun e w' => e = .returned (.bool true) ∧ Below w.heap.size w w' := by
  obtain ⟨⟨s⟩⟩ := a
  have hsz : ByteArray.size ⟨s.toArray⟩ = s.length := str_size s
  by_cases h1 : s.length ≤ 70000
  · have h3 := wrongU_lo s
    by_cases hx : wrongU s = -1
    · exact reads_right s w h1 hx
    · exact reads_wrong s w h1 (by omega)
  · have h2 : (70000 : Int) < (s.length : Int) := by omega
    have h3 : s.length ≤ 9223372036854775807 := by rw [← hsz]; exact wa
    clear wa
    go_enter Try.func9, Try.ntmps9
    go_wp2_with fail
    refine (known12 _).mono ?_
    rintro e w9 ⟨rfl, hb9⟩
    go_wp2
    go_ret
    exact ⟨rfl, hb9⟩
end Go.Proofs.Ytjgflihokbmhiaa
