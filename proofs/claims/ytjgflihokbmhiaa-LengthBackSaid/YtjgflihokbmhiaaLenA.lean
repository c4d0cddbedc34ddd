/- Contracts of the small functions of package length: may, bounds, Size's test, slices.IndexFunc and ContainsFunc at int64 and at byte. -/
import Derived.Test.YtjgflihokbmhiaaBase
import Derived.Test.YtjgflihokbmhiaaProg
namespace Go.Proofs.Ytjgflihokbmhiaa
open Go.RowKit Go.Shelf

/-- May n be a length? -/
def mayL (n : Int) : Bool := decide (0 ≤ n) && decide (n ≤ 268435455)

set_option maxHeartbeats 400000 in
theorem len_may (n : Int) (w : World) :
    Calls Try.prog 35 #[.int .i64 n] w fun e w' => e = .returned (.bool (mayL n)) ∧ w = w' := by
  unfold mayL
  go_enter Try.func35, Try.ntmps35
  go_wp2
  all_goals go_ret
  all_goals (refine ⟨?_, rfl⟩; simp_all)
  all_goals omega

set_option maxHeartbeats 400000 in
theorem len_bounds (w : World) :
    Calls Try.prog 36 #[] w fun e w' => e = .returned (.agg #[.int .i64 0, .int .i64 128, .int .i64 16384, .int .i64 2097152, .int .i64 268435456]) ∧ Below w.heap.size w w' := by
  go_enter Try.func36, Try.ntmps36
  go_wp2
  refine wp_loop_rounds 5 ?_
  rw [rounds_succ]; go_wp2
  rw [rounds_succ]; go_wp2
  rw [rounds_succ]; go_wp2
  rw [rounds_succ]; go_wp2
  rw [rounds_succ]; go_wp2
  exact bodyPost_ret (v := .agg #[.int .i64 0, .int .i64 128, .int .i64 16384, .int .i64 2097152, .int .i64 268435456]) (by simp [results, Try.results36, go_sem]) rfl
    ⟨rfl, ((Below.refl _ _).alloc (Nat.le_refl _) _).alloc (by simp) _⟩

set_option maxHeartbeats 400000 in
theorem len_size1 (n x : Int) (b : Nat) (w : World) (hc : w.cell? ⟨b, 0, none⟩ = some (.int .i64 n)) :
    Calls Try.prog 38 #[.int .i64 x, .pointer (some ⟨b, 0, none⟩)] w fun e w' => e = .returned (.bool (decide (n < x))) ∧ w = w' := by
  go_enter Try.func38, Try.ntmps38
  go_wp2
  go_ret
  exact ⟨rfl, rfl⟩

set_option maxHeartbeats 400000 in
theorem len_all1 (x : Int) (w : World) :
    Calls Try.prog 40 #[.int .i64 x] w fun e w' => e = .returned (.bool (!mayL x)) ∧ w = w' := by
  go_enter Try.func40, Try.ntmps40
  go_wp2_with (go_at_call 35; refine (len_may _ _).mono ?_; rintro e w' ⟨rfl, rfl⟩)
  go_ret
  exact ⟨rfl, rfl⟩

set_option maxHeartbeats 400000 in
theorem len_read1 (x : UInt8) (w : World) :
    Calls Try.prog 33 #[.int .u8 x.toNat] w fun e w' => e = .returned (.bool (decide (x.toNat < 128))) ∧ w = w' := by
  go_enter Try.func33, Try.ntmps33
  go_wp2
  go_ret
  refine ⟨?_, rfl⟩
  simp
  omega

set_option maxHeartbeats 400000 in
theorem indexFunc_byte (g : Nat) (lb : Array Value) (p : UInt8 → Bool) (a : Option Addr) (n cap : Nat) (l : List UInt8) (w : World) (h : RowAt w a n cap (bs l))
   (eg : ∀ args w, (callFunc g args).run Try.prog w = .ok (.enter g args) w) (hg : ∀ (x : UInt8), Calls Try.prog g (#[.int .u8 x.toNat] ++ lb) w fun e w' => e = .returned (.bool (p x)) ∧ w = w') :
    Calls Try.prog 32 #[.slice a n cap, .func (.func g) #[] lb] w fun e w' => e = .returned (.int .i64 (idxOf p l)) ∧ w = w' := by
  have hle := h.le
  have hmax := h.max
  have hlen : l.length = n := by have := h.len; rwa [bs_len] at this
  have HL := hid hlen; clear hlen
  have HG := hid hg; clear hg
  unfold maxLen at hmax
  go_enter Try.func32, Try.ntmps32
  go_wp2
  go_loop [4,5,8] (fun _ _ i => ∃ k : Nat, k ≤ n ∧ i = .int .i64 k ∧ Hid (∀ j, j < k → p (l[j]?.getD 0) = false)) (fun _ _ i => n - (intOf i).toNat)
  case atStart => exact ⟨0, Nat.zero_le _, rfl, fun j hj => absurd hj (Nat.not_lt_zero _)⟩
  case round =>
    obtain ⟨k, hk, rfl, hj⟩ := hrel
    by_cases hlt : k < n
    · obtain ⟨b, off, ha, hcell⟩ := h.byte hlt
      subst ha
      clear h
      go_wp2_with fail
      refine (HG.out _).mono ?_
      rintro e w' ⟨rfl, rfl⟩
      cases hp : p (l[k]?.getD 0)
      · go_wp2
        go_round
        case rel =>
          refine ⟨k + 1, by omega, by go_num, fun j hj' => ?_⟩
          by_cases he : j = k
          · subst he; exact hp
          · exact hj j (by omega)
        case measure => simp [intOf]; omega
      · go_wp2
        go_ret
        refine ⟨?_, rfl⟩
        have hl := HL.out
        rw [idxOf_at p l k (by omega) (fun j hj' => by have := hj j hj'; rwa [List.getElem?_eq_getElem (by omega)] at this) (by rwa [List.getElem?_eq_getElem (by omega)] at hp)]
        rfl
    · go_wp2
      go_ret
      refine ⟨?_, rfl⟩
      have hl := HL.out
      rw [idxOf_none p l (fun x hx => by
        obtain ⟨j, hj', rfl⟩ := List.getElem_of_mem hx
        have := hj j (by omega)
        rwa [List.getElem?_eq_getElem hj'] at this)]
      rfl
set_option maxHeartbeats 400000 in
theorem indexFunc_i64 (g : Nat) (lb : Array Value) (p : Int → Bool) (a : Option Addr) (n cap : Nat) (l : List Int) (w : World) (h : RowAt w a n cap (ns .i64 l))
   (eg : ∀ args w, (callFunc g args).run Try.prog w = .ok (.enter g args) w) (hg : ∀ (x : Int), Calls Try.prog g (#[.int .i64 x] ++ lb) w fun e w' => e = .returned (.bool (p x)) ∧ w = w') :
    Calls Try.prog 37 #[.slice a n cap, .func (.func g) #[] lb] w fun e w' => e = .returned (.int .i64 (idxOf p l)) ∧ w = w' := by
  have hle := h.le
  have hmax := h.max
  have hlen : l.length = n := by have := h.len; rwa [ns_len] at this
  have HL := hid hlen; clear hlen
  have HG := hid hg; clear hg
  unfold maxLen at hmax
  go_enter Try.func37, Try.ntmps37
  go_wp2
  go_loop [4,5,8] (fun _ _ i => ∃ k : Nat, k ≤ n ∧ i = .int .i64 k ∧ Hid (∀ j, j < k → p (l[j]?.getD 0) = false)) (fun _ _ i => n - (intOf i).toNat)
  case atStart => exact ⟨0, Nat.zero_le _, rfl, fun j hj => absurd hj (Nat.not_lt_zero _)⟩
  case round =>
    obtain ⟨k, hk, rfl, hj⟩ := hrel
    by_cases hlt : k < n
    · obtain ⟨b, off, ha, hcell⟩ := h.num hlt
      subst ha
      clear h
      go_wp2_with fail
      refine (HG.out _).mono ?_
      rintro e w' ⟨rfl, rfl⟩
      cases hp : p (l[k]?.getD 0)
      · go_wp2
        go_round
        case rel =>
          refine ⟨k + 1, by omega, by go_num, fun j hj' => ?_⟩
          by_cases he : j = k
          · subst he; exact hp
          · exact hj j (by omega)
        case measure => simp [intOf]; omega
      · go_wp2
        go_ret
        refine ⟨?_, rfl⟩
        have hl := HL.out
        rw [idxOf_at p l k (by omega) (fun j hj' => by have := hj j hj'; rwa [List.getElem?_eq_getElem (by omega)] at this) (by rwa [List.getElem?_eq_getElem (by omega)] at hp)]
        rfl
    · go_wp2
      go_ret
      refine ⟨?_, rfl⟩
      have hl := HL.out
      rw [idxOf_none p l (fun x hx => by
        obtain ⟨j, hj', rfl⟩ := List.getElem_of_mem hx
        have := hj j (by omega)
        rwa [List.getElem?_eq_getElem hj'] at this)]
      rfl
end Go.Proofs.Ytjgflihokbmhiaa
