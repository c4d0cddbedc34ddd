/- Contracts of package length: Size, the bytes of a length, All, Raw. -/
import Derived.Test.YtjgflihokbmhiaaLenA
namespace Go.Proofs.Ytjgflihokbmhiaa
open Go.RowKit Go.Shelf

/-- How many bytes a length has; 0: it may not be. -/
def sizeL (n : Int) : Nat := if mayL n = false then 0 else if n < 128 then 1 else if n < 16384 then 2 else if n < 2097152 then 3 else 4

theorem mayL_iff (n : Int) : mayL n = true ↔ 0 ≤ n ∧ n ≤ 268435455 := by simp [mayL]
theorem mayL_no (n : Int) : mayL n = false ↔ n < 0 ∨ 268435455 < n := by
  rw [← Bool.not_eq_true, mayL_iff]; omega

set_option maxHeartbeats 400000 in
theorem containsFunc_i64 (g : Nat) (lb : Array Value) (p : Int → Bool) (a : Option Addr) (n cap : Nat) (l : List Int) (w : World) (h : RowAt w a n cap (ns .i64 l))
   (eg : ∀ args w, (callFunc g args).run Try.prog w = .ok (.enter g args) w) (hg : ∀ (x : Int), Calls Try.prog g (#[.int .i64 x] ++ lb) w fun e w' => e = .returned (.bool (p x)) ∧ w = w') :
    Calls Try.prog 39 #[.slice a n cap, .func (.func g) #[] lb] w fun e w' => e = .returned (.bool (decide (0 ≤ idxOf p l))) ∧ w = w' := by
  have HG := hid (indexFunc_i64 g lb p a n cap l w h eg hg)
  clear hg eg
  go_enter Try.func39, Try.ntmps39
  go_wp2_with fail
  refine HG.out.mono ?_
  rintro e w' ⟨rfl, rfl⟩
  go_wp2
  go_ret
  exact ⟨rfl, rfl⟩

set_option maxHeartbeats 400000 in
theorem len_size (n : Int) (w : World) :
    Calls Try.prog 15 #[.int .i64 n] w fun e w' => e = .returned (.int .i64 (sizeL n)) ∧ Below w.heap.size w w' := by
  cases hm : mayL n
  · go_enter Try.func15, Try.ntmps15
    go_wp2_with (go_at_call 35; refine (len_may _ _).mono ?_; rintro e w' ⟨rfl, rfl⟩)
    go_ret
    exact ⟨by simp [sizeL, hm], (Below.refl _ _).alloc (Nat.le_refl _) _⟩
  · go_enter Try.func15, Try.ntmps15
    go_wp2_with (go_at_call 35; refine (len_may _ _).mono ?_; rintro e w' ⟨rfl, rfl⟩)
    refine (len_bounds _).mono ?_
    rintro e w1 ⟨rfl, hb⟩
    have hc1 : w1.cell? ⟨w.heap.size, 0, none⟩ = some (.int .i64 n) := by
      rw [hb.cell (p := ⟨w.heap.size, 0, none⟩) (by simp)]; go_simp
    have hz := hb.size
    simp at hz
    go_wp2_with fail
    have hrow : RowAt (w1.alloc (Obj.cells #[.int .i64 0, .int .i64 128, .int .i64 16384, .int .i64 2097152, .int .i64 268435456] 65)) (some ⟨w1.heap.size, 0, none⟩) 5 5 (ns .i64 [0, 128, 16384, 2097152, 268435456]) :=
      RowAt.new w1 _ _ _ (by simp [maxLen])
    have hc2 := cell_alloc hc1 (Obj.cells #[.int .i64 0, .int .i64 128, .int .i64 16384, .int .i64 2097152, .int .i64 268435456] 65)
    refine (indexFunc_i64 38 #[.pointer (some ⟨w.heap.size, 0, none⟩)] (fun x => decide (n < x)) _ 5 5 _ _ hrow (enters_of Try.func38 (by kernel_rfl) rfl) (fun x => len_size1 n x _ _ hc2)).mono ?_
    rintro e w' ⟨rfl, rfl⟩
    go_wp2
    go_ret
    refine ⟨?_, ?_⟩
    · have hm' := (mayL_iff n).1 hm
      congr 2
      simp only [sizeL, hm, idxOf]
      have h0 : ¬ n < 0 := by omega
      have h5 : n < 268435456 := by omega
      by_cases h1 : n < 128 <;> by_cases h2 : n < 16384 <;> by_cases h3 : n < 2097152 <;> simp [h0, h1, h2, h3, h5] <;> omega
    · exact (((Below.refl _ w).alloc (Nat.le_refl _) _).trans (hb.mono (by simp))).alloc (by omega) _
end Go.Proofs.Ytjgflihokbmhiaa
