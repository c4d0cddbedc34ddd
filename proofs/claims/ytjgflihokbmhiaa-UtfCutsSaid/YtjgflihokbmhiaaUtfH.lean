/- The law package of layer 12: 'known'. -/
import Derived.Test.YtjgflihokbmhiaaUtfG
import Derived.Test.YtjgflihokbmhiaaLenH
namespace Go.Proofs.Ytjgflihokbmhiaa
open Go.RowKit Go.Shelf

set_option maxRecDepth 100000 in
set_option maxHeartbeats 1000000 in
theorem known12 (w : World) : Calls Try.prog 17 #[] w fun e w' => e = .returned (.bool true) ∧ Below w.heap.size w w' := by
  have C1 := hid (utf_Raw (some ⟨w.heap.size, 0, none⟩) 3 3 [228, 8364, 128512] (w.alloc (.cells #[.int .i32 228, .int .i32 8364, .int .i32 128512] 21)) (RowAt.new w _ _ _ (by simp [maxLen])) (by omega))
  rw [show rawU [228, 8364, 128512] = ([195, 164, 226, 130, 172, 240, 159, 152, 128], 0) from by decide +kernel] at C1
  have C2 := hid (fun W => utf_Cut [97, 195, 164] 2 W (by simp) (by decide +kernel) (by omega))
  rw [show cutU [97, 195, 164] 2 = 1 from by decide +kernel] at C2
  have C3 := hid (fun W => utf_Check [192, 128] W (by simp))
  rw [show checkU [192, 128] = 220 from by decide +kernel] at C3
  have C4 := hid (fun W => utf_Check [237, 160, 128] W (by simp))
  rw [show checkU [237, 160, 128] = 220 from by decide +kernel] at C4
  have C5 := hid (fun W => utf_Wrong [97, 255] W (by simp))
  rw [show wrongU [97, 255] = 1 from by decide +kernel] at C5
  have C6 := hid (fun W => utf_Check [] W (by simp))
  rw [show checkU [] = 0 from by decide +kernel] at C6
  have C7 := hid (fun W => utf_Plain [97, 7] W (by simp))
  rw [show plainU [97, 7] = false from by decide +kernel] at C7
  go_enter Try.func17, Try.ntmps17
  go_wp2_with fail
  refine C1.out.mono ?_
  rintro e w1 ⟨rfl, hb1⟩
  have k1 := ((Below.refl _ w).alloc (Nat.le_refl _) (.cells #[.int .i32 228, .int .i32 8364, .int .i32 128512] 21)).trans (hb1.mono (by simp))
  go_wp2_with fail
  refine (C2.out _).mono ?_
  rintro e w2 ⟨rfl, hb2⟩
  have k2 := k1.trans (hb2.mono k1.size)
  go_wp2_with fail
  refine (C3.out _).mono ?_
  rintro e w3 ⟨rfl, hb3⟩
  have k3 := k2.trans (hb3.mono k2.size)
  go_wp2_with fail
  refine (C4.out _).mono ?_
  rintro e w4 ⟨rfl, hb4⟩
  have k4 := k3.trans (hb4.mono k3.size)
  go_wp2_with fail
  refine (C5.out _).mono ?_
  rintro e w5 ⟨rfl, hb5⟩
  have k5 := k4.trans (hb5.mono k4.size)
  go_wp2_with fail
  refine (C6.out _).mono ?_
  rintro e w6 ⟨rfl, hb6⟩
  have k6 := k5.trans (hb6.mono k5.size)
  go_wp2_with fail
  refine (C7.out _).mono ?_
  rintro e w7 ⟨rfl, hb7⟩
  have k7 := k6.trans (hb7.mono k6.size)
  go_wp2
  go_ret
  exact ⟨rfl, k7⟩
end Go.Proofs.Ytjgflihokbmhiaa
