/- Contracts of the reference of layer 12: May, six, Raw. -/
import Derived.Test.YtoinabapaeebfaaGreatDoorPk08
import Derived.Test.YtoinabapaeebfaaGreatDoorPk06
set_option linter.unusedSimpArgs false
set_option linter.unusedVariables false
namespace Go.Proofs.YtoinabapaeebfaaGreatDoor
open Go.RowKit Go.Shelf

set_option maxRecDepth 100000 in
set_option maxHeartbeats 400000 in
theorem ref_May (r : Int) (w : World) :
    Calls Tryz.prog 208 #[.int .i32 r] w fun e w' => e = .returned (.bool (mayR r)) ∧ w = w' := by
  have fin : ∀ b : Bool, mayR r = b → Ending.returned (.bool b) = .returned (.bool (mayR r)) := fun b h => by rw [h]
  have HF := hid fin
  clear fin
  by_cases h1 : 0 ≤ r
  · by_cases h3 : r < 55296
    · go_enter Tryz.func208, Tryz.ntmps208
      go_wp2
      all_goals (go_ret; exact ⟨HF.out _ (by simp [mayR]; omega), rfl⟩)
    · have d1 : decide (r < 55296) = false := decide_eq_false h3
      by_cases h4 : 57343 < r
      · by_cases h2 : r ≤ 1114111
        · go_enter Tryz.func208, Tryz.ntmps208
          go_wp2
          all_goals (go_ret; exact ⟨HF.out _ (by simp [mayR]; omega), rfl⟩)
        · have d2 : decide (r ≤ 1114111) = false := decide_eq_false h2
          go_enter Tryz.func208, Tryz.ntmps208
          go_wp2
          all_goals (go_ret; exact ⟨HF.out _ (by simp [mayR]; omega), rfl⟩)
      · have d3 : decide (57343 < r) = false := decide_eq_false h4
        go_enter Tryz.func208, Tryz.ntmps208
        go_wp2
        all_goals (go_ret; exact ⟨HF.out _ (by simp [mayR]; omega), rfl⟩)
  · have d4 : decide (0 ≤ r) = false := decide_eq_false h1
    have d5 : decide (57343 < r) = false := decide_eq_false (by omega)
    go_enter Tryz.func208, Tryz.ntmps208
    go_wp2
    all_goals (go_ret; exact ⟨HF.out _ (by simp [mayR]; omega), rfl⟩)

set_option maxRecDepth 100000 in
set_option maxHeartbeats 400000 in
theorem ref_six (k : Int) (w : World) (h0 : 0 ≤ k) (hk : k ≤ 1114111) :
    Calls Tryz.prog 222 #[.int .i64 k] w fun e w' => e = .returned (.int .u8 (128 + k % 64)) ∧ w = w' := by
  go_enter Tryz.func222, Tryz.ntmps222
  go_wp2
  go_ret
  exact ⟨rfl, rfl⟩

theorem conv_cells (l : List UInt8) (cs : List Value) (h : cs = bs l) (n : Nat) (hn : cs.length = n) (W : World) (hl : n ≤ 1000) : (convert 71 9 (.slice (some ⟨W.heap.size, 0, none⟩) n n)).run Tryz.prog (W.alloc (.cells cs.toArray 5)) = .ok (.string ⟨l.toArray⟩) (W.alloc (.cells cs.toArray 5)) := by
  subst hn h
  have h1 := RowAt.new W (bs l).toArray 5 (0, 0) (by unfold maxLen; simp; omega)
  simp only [List.size_toArray, List.toList_toArray] at h1
  exact run_str h1
theorem cells_1 (m : Nat) (h : m < 128) : [Value.int .u8 (m : Int)] = bs (encR m) := by
  have he : encR m = [b8 m] := by unfold encR; rw [if_pos h]
  rw [he]
  simp only [bs, List.map_cons, List.map_nil, b8_nat m (by omega)]
theorem cells_2 (m : Nat) (h : ¬ m < 128) (h2 : m < 2048) : [Value.int .u8 (192 + (m : Int) / 64), .int .u8 (128 + (m : Int) % 64)] = bs (encR m) := by
  have he : encR m = [b8 (192 + m / 64), b8 (128 + m % 64)] := by unfold encR; rw [if_neg h, if_pos h2]
  rw [he]
  simp only [bs, List.map_cons, List.map_nil, b8_nat (192 + m / 64) (by omega), b8_nat (128 + m % 64) (by omega)]
  rfl
theorem cells_3 (m : Nat) (h : ¬ m < 2048) (h2 : m < 65536) : [Value.int .u8 (224 + (m : Int) / 4096), .int .u8 (128 + (m : Int) / 64 % 64), .int .u8 (128 + (m : Int) % 64)] = bs (encR m) := by
  have he : encR m = [b8 (224 + m / 4096), b8 (128 + m / 64 % 64), b8 (128 + m % 64)] := by unfold encR; rw [if_neg (by omega), if_neg h, if_pos h2]
  rw [he]
  simp only [bs, List.map_cons, List.map_nil, b8_nat (224 + m / 4096) (by omega), b8_nat (128 + m / 64 % 64) (by omega), b8_nat (128 + m % 64) (by omega)]
  rfl
theorem cells_4 (m : Nat) (h : ¬ m < 65536) (h2 : m ≤ 1114111) : [Value.int .u8 (240 + (m : Int) / 262144), .int .u8 (128 + (m : Int) / 4096 % 64), .int .u8 (128 + (m : Int) / 64 % 64), .int .u8 (128 + (m : Int) % 64)] = bs (encR m) := by
  have he : encR m = [b8 (240 + m / 262144), b8 (128 + m / 4096 % 64), b8 (128 + m / 64 % 64), b8 (128 + m % 64)] := by unfold encR; rw [if_neg (by omega), if_neg (by omega), if_neg h]
  rw [he]
  simp only [bs, List.map_cons, List.map_nil, b8_nat (240 + m / 262144) (by omega), b8_nat (128 + m / 4096 % 64) (by omega), b8_nat (128 + m / 64 % 64) (by omega), b8_nat (128 + m % 64) (by omega)]
  rfl

set_option maxRecDepth 100000 in
set_option maxHeartbeats 1000000 in
theorem ref_Raw (m : Nat) (w : World) (hm : m ≤ 1114111) :
    Calls Tryz.prog 209 #[.int .i32 m] w fun e w' => e = .returned (.string ⟨(encR m).toArray⟩) ∧ Below w.heap.size w w' := by
  have hb : ∀ o, Below w.heap.size w (w.alloc o) := fun o => (Below.refl _ w).alloc (Nat.le_refl _) o
  have HB := hid hb
  clear hb
  obtain ⟨z, hz⟩ : ∃ z : Int, z = m := ⟨_, rfl⟩
  rw [← hz]
  have HZ := hid hz
  have z0 : 0 ≤ z := by omega
  have z1 : z ≤ 1114111 := by omega
  by_cases h1 : m < 128
  · have hcv := fun W => conv_cells (encR m) _ (cells_1 m h1) 1 rfl W (by omega)
    rw [← hz] at hcv
    have y1 : z < 128 := by omega
    clear hz hm h1
    go_enter Tryz.func209, Tryz.ntmps209
    go_wp2
    go_ret
    exact ⟨rfl, HB.out _⟩
  by_cases h2 : m < 2048
  · have hcv := fun W => conv_cells (encR m) _ (cells_2 m h1 h2) 2 rfl W (by omega)
    rw [← hz] at hcv
    have y1 : 128 ≤ z := by omega
    have y2 : z < 2048 := by omega
    clear hz hm h1 h2
    go_enter Tryz.func209, Tryz.ntmps209
    go_wp2_with (go_at_call 222; refine (ref_six _ _ (by omega) (by omega)).mono ?_; rintro e w' ⟨rfl, rfl⟩)
    go_ret
    exact ⟨rfl, HB.out _⟩
  by_cases h3 : m < 65536
  · have hcv := fun W => conv_cells (encR m) _ (cells_3 m h2 h3) 3 rfl W (by omega)
    rw [← hz] at hcv
    have y1 : 2048 ≤ z := by omega
    have y2 : z < 65536 := by omega
    clear hz hm h1 h2 h3
    go_enter Tryz.func209, Tryz.ntmps209
    go_wp2_with (go_at_call 222; refine (ref_six _ _ (by omega) (by omega)).mono ?_; rintro e w' ⟨rfl, rfl⟩)
    go_ret
    exact ⟨rfl, HB.out _⟩
  · have hcv := fun W => conv_cells (encR m) _ (cells_4 m h3 hm) 4 rfl W (by omega)
    rw [← hz] at hcv
    have y1 : 65536 ≤ z := by omega
    clear hz hm h1 h2 h3
    go_enter Tryz.func209, Tryz.ntmps209
    go_wp2_with (go_at_call 222; refine (ref_six _ _ (by omega) (by omega)).mono ?_; rintro e w' ⟨rfl, rfl⟩)
    go_ret
    exact ⟨rfl, HB.out _⟩
end Go.Proofs.YtoinabapaeebfaaGreatDoor
