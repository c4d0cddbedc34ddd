/- strings.ContainsAny of + and #, on whatever bytes. -/
import Derived.Test.YtoinabapaeebfaaGreatDoorPk09
import Derived.Laws.Runes
import Derived.Laws.RangeAny
import Derived.Lib.OthersKept
import Derived.Deep.LoopGhost
import Derived.RegionTactic
import Derived.Deep.QuietTactic
import Derived.BigQuiet
set_option linter.unusedSimpArgs false
set_option linter.unusedVariables false
namespace Go.Proofs.YtoinabapaeebfaaGreatDoor
open Go.RowKit Go.Shelf

theorem below_drewN' (w : World) (n : Nat) : Below w.heap.size w (w.drewN n) := by
  induction n with
  | zero => exact Below.refl _ _
  | succ n ih => exact ih.drew
set_option maxRecDepth 100000 in
set_option maxHeartbeats 400000 in
theorem utf8_ValidRune (r : Int) (w : World) :
    Calls Tryz.prog 219 #[.int .i32 r] w fun e w' => (e = .returned (.bool (Utf8.valid r))) ∧ w = w' := by
  by_cases h1 : 0 ≤ r
  · by_cases h2 : r < 55296
    · have hv : Utf8.valid r = true := by unfold Utf8.valid; simp; omega
      go_enter Tryz.func219, Tryz.ntmps219
      go_wp2
      go_ret
      simp [hv]
    · have d2 : decide (r < 55296) = false := decide_eq_false h2
      by_cases h3 : 57343 < r
      · by_cases h4 : r ≤ 1114111
        · have hv : Utf8.valid r = true := by unfold Utf8.valid; simp; omega
          go_enter Tryz.func219, Tryz.ntmps219
          go_wp2
          go_ret
          simp [hv]
        · have d4 : decide (r ≤ 1114111) = false := decide_eq_false h4
          have hv : Utf8.valid r = false := by unfold Utf8.valid; simp; omega
          go_enter Tryz.func219, Tryz.ntmps219
          go_wp2
          go_ret
          simp [hv]
      · have d3 : decide (57343 < r) = false := decide_eq_false h3
        have hv : Utf8.valid r = false := by unfold Utf8.valid; simp; omega
        go_enter Tryz.func219, Tryz.ntmps219
        go_wp2
        go_ret
        simp [hv]
  · have d1 : decide (0 ≤ r) = false := decide_eq_false h1
    have d3 : decide (57343 < r) = false := decide_eq_false (by omega)
    have hv : Utf8.valid r = false := by unfold Utf8.valid; simp; omega
    go_enter Tryz.func219, Tryz.ntmps219
    go_wp2
    go_ret
    simp [hv]

set_option maxRecDepth 100000 in
set_option maxHeartbeats 2000000 in
theorem idxRune_high (r : Int) (w : World) (h128 : 128 ≤ r) :
    Calls Tryz.prog 204 #[.string ⟨#[43, 35]⟩, .int .i32 r] w fun e w' => e = .returned (.int .i64 (-1)) ∧ Below w.heap.size w w' := by
  have d1 : decide (r < 128) = false := decide_eq_false (by omega)
  by_cases he : r = 65533
  · subst he
    go_enter Tryz.func204, Tryz.ntmps204
    go_wp2
    go_loopg [5, 6] 2 (fun g _ _ wx => ∃ i : Nat, i + g = 2 ∧ wx = w.iter ⟨#[43, 35]⟩ i)
    case atStart => exact ⟨0, by omega, rfl⟩
    case round =>
      obtain ⟨i, hig, rfl⟩ := hrel
      cases gk with
      | zero =>
        obtain rfl : i = 2 := by omega
        have hnx := fun ty => run_next_end (P := Tryz.prog) w ⟨#[43, 35]⟩ 2 ty (by decide)
        go_wp2
        go_ret
        exact ⟨rfl, (Below.refl _ _).alloc (Nat.le_refl _) _⟩
      | succ g =>
        have hi : i = 0 ∨ i = 1 := by omega
        rcases hi with rfl | rfl
        · have hnx := fun ty => run_next_ascii (P := Tryz.prog) w ⟨#[43, 35]⟩ 0 ty (by decide) (by decide)
          go_wp2
          go_roundg g
          case measure => omega
          case rel => exact ⟨1, by omega, rfl⟩
        · have hnx := fun ty => run_next_ascii (P := Tryz.prog) w ⟨#[43, 35]⟩ 1 ty (by decide) (by decide)
          go_wp2
          go_roundg g
          case measure => omega
          case rel => exact ⟨2, by omega, rfl⟩
  · have d2 : (r == 65533) = false := by simpa using he
    have CV := hid (utf8_ValidRune r)
    cases hv : Utf8.valid r with
    | false =>
      rw [hv] at CV
      go_enter Tryz.func204, Tryz.ntmps204
      go_wp2_with (go_at_call 219; refine (CV.out _).mono ?_; rintro e w1 ⟨rfl, rfl⟩)
      go_ret
      exact ⟨rfl, Below.refl _ _⟩
    | true =>
      rw [hv] at CV
      obtain ⟨g1, g2, g3⟩ := encode_facts r hv h128
      obtain ⟨E, hE⟩ : ∃ E, Utf8.encode r = E := ⟨_, rfl⟩
      rw [hE] at g1 g2 g3
      have hE := hid hE
      by_cases hs2 : E.size = 2
      · have IB : Hid (∀ (s : ByteArray) (c : Int) (w : World), Calls Tryz.prog 218 #[.string s, .int .u8 c] w fun e w' => e = .returned (.int .i64 (Lib.indexByte s.data.toList c.toNat.toUInt8)) ∧ w' = w) := hid fun s c w => Any.strings_IndexByte { Tryz.lays152 with } s c w
        have g4 : ∀ h, 128 ≤ ((E[1]'h).toNat : Int) := fun h => by
          have := g3 (by omega)
          have e : E.size - 1 = 1 := by omega
          simp only [e] at this
          omega
        obtain ⟨c, hc⟩ : ∃ c : Int, ((E[1]'(by omega)).toNat : Int) = c := ⟨_, rfl⟩
        have g5 : ∀ h, ((E[1]'h).toNat : Int) = c := fun h => hc
        have hcb := g4 (by omega)
        rw [hc] at hcb
        have nb : ∀ h, (⟨#[43, 35]⟩ : ByteArray)[1]'h = 35 := fun _ => rfl
        have n0 : ((35 : Int) != c) = true := by simp; omega
        have nc : ((35 : UInt8).toNat : Int) = 35 := rfl
        have hsz : (E.size : Int) = 2 := by omega
        clear g1 g2 g3 g4 hc
        go_enter Tryz.func204, Tryz.ntmps204
        go_wp2_with (go_at_call 219; refine (CV.out _).mono ?_; rintro e w1 ⟨rfl, rfl⟩)
        refine wp_scope_straight ?_
        go_wp2
        go_loopw [9, 10] (fun i f wr => i = .int .i64 1 ∧ f = .int .i64 0 ∧ wr = w) (fun _ _ _ => 0)
        case atStart => exact ⟨rfl, rfl, rfl⟩
        case round =>
          obtain ⟨rfl, rfl, rfl⟩ := hrel
          go_wp2
          refine wp_scope_straight ?_
          go_wp2
          go_quiet (fail)
          go_wp2
          have hw2 : IntKind.i64.wrap 2 = 2 := by decide
          have hsl : ∀ W : World, (Instr.slice 9 (.string ⟨#[43, 35]⟩) (some (.int .i64 2)) none none).run Tryz.prog W = .ok (.string ⟨#[]⟩) W := fun W => by kernel_rfl
          have hii : Lib.indexByte [] c.toNat.toUInt8 = -1 := rfl
          go_quiet ((refine (IB.out _ _ _).mono fun e w' h => ⟨h.1, _, h.2⟩))
          go_wp2
          rw [Exit.noGoto_ret]
          go_wp2
          rw [Exit.noGoto_ret]
          go_ret
          exact ⟨rfl, below_drewN' _ _⟩
      · have hge : (2 : Int) < (E.size : Int) := by omega
        have hge4 : (E.size : Int) ≤ 4 := by omega
        obtain ⟨n, hn⟩ : ∃ n : Int, (E.size : Int) = n := ⟨_, rfl⟩
        rw [hn] at hge hge4
        have d3 : decide (n - 1 < 2) = false := decide_eq_false (by omega)
        have hw : wrap64 (n - 1) = n - 1 := by unfold wrap64; omega
        clear g1 g2 g3
        go_enter Tryz.func204, Tryz.ntmps204
        go_wp2_with (go_at_call 219; refine (CV.out _).mono ?_; rintro e w1 ⟨rfl, rfl⟩)
        refine wp_scope_straight ?_
        go_wp2
        go_loopw [9, 10] (fun i f wr => i = .int .i64 (n - 1) ∧ f = .int .i64 0 ∧ wr = w) (fun _ _ _ => 0)
        case atStart => exact ⟨rfl, rfl, rfl⟩
        case round =>
          obtain ⟨rfl, rfl, rfl⟩ := hrel
          go_wp2
          rw [Exit.noGoto_ret]
          go_ret
          exact ⟨rfl, Below.refl _ _⟩

/-- A rune of more bytes: none of them below 128. -/
theorem decode_step (s : ByteArray) (i : Nat) (h : i < s.size) (ha : 128 ≤ (s[i]'h).toNat) :
    1 ≤ (Utf8.decode s i).2 ∧ i + (Utf8.decode s i).2 ≤ s.size ∧ ∀ j b, i ≤ j → j < i + (Utf8.decode s i).2 → s.data.toList[j]? = some b → 128 ≤ b.toNat := by
  have hat : ∀ k b, s.data.toList[i + k]? = some b → (s.get! (i + k)) = b := fun k b hb => by
    have hlt : i + k < s.size := by rw [Lib.size_eq]; exact (List.getElem?_eq_some_iff.1 hb).1
    have := Lib.data_getElem? s (i + k) hlt
    rw [this] at hb
    simp only [Option.some.injEq] at hb
    rw [← hb]
    simp [ByteArray.get!, getElem!_pos, hlt]
    rfl
  have cont : ∀ k, (s.get! (i + k)).toNat / 64 = 2 → 128 ≤ (s.get! (i + k)).toNat := fun k h => by omega
  have key : ∀ d, (∀ k, 1 ≤ k → k < d → i + k < s.size ∧ (s.get! (i + k)).toNat / 64 = 2) → 1 ≤ d → 1 ≤ d ∧ i + d ≤ s.size ∧ ∀ j b, i ≤ j → j < i + d → s.data.toList[j]? = some b → 128 ≤ b.toNat := by
    intro d hk hd
    refine ⟨hd, ?_, fun j b h1 h2 hb => ?_⟩
    · rcases Nat.lt_or_ge 1 d with h1 | h1
      · have := (hk (d - 1) (by omega) (by omega)).1; omega
      · omega
    · obtain ⟨k, rfl⟩ : ∃ k, j = i + k := ⟨j - i, by omega⟩
      rcases Nat.eq_zero_or_pos k with h0 | h0
      · subst h0
        have := hat 0 b hb
        rw [get_at s i h] at this
        rw [← this]; exact ha
      · rw [← hat k b hb]; exact cont k (hk k h0 (by omega)).2
  have one : 1 ≤ 1 ∧ i + 1 ≤ s.size ∧ ∀ j b, i ≤ j → j < i + 1 → s.data.toList[j]? = some b → 128 ≤ b.toNat := key 1 (fun k h1 h2 => by omega) (Nat.le_refl _)
  have hn : ¬ (s[i]'h).toNat < 128 := by omega
  unfold Utf8.decode
  simp only [get_at s i h, hn, if_false]
  split
  · rename_i hc
    simp only [Bool.and_eq_true, beq_iff_eq, decide_eq_true_eq] at hc
    split
    · exact key 2 (fun k h1 h2 => by obtain rfl : k = 1 := by omega
                                     exact hc.2) (by omega)
    · exact one
  · split
    · rename_i hc
      simp only [Bool.and_eq_true, beq_iff_eq, decide_eq_true_eq] at hc
      split
      · exact key 3 (fun k h1 h2 => by
          rcases (by omega : k = 1 ∨ k = 2) with rfl | rfl
          · exact hc.1.2
          · exact hc.2) (by omega)
      · exact one
    · split
      · rename_i hc
        simp only [Bool.and_eq_true, beq_iff_eq, decide_eq_true_eq] at hc
        split
        · exact key 4 (fun k h1 h2 => by
            rcases (by omega : k = 1 ∨ k = 2 ∨ k = 3) with rfl | rfl | rfl
            · exact hc.1.1.2
            · exact hc.1.2
            · exact hc.2) (by omega)
        · exact one
      · exact one
theorem noAny_step {s : List UInt8} {i d : Nat} (h : Lib.NoAny s [43, 35] i) (hk : ∀ j b, i ≤ j → j < i + d → s[j]? = some b → 128 ≤ b.toNat) : Lib.NoAny s [43, 35] (i + d) := fun j b hj hb => by
  rcases Nat.lt_or_ge j i with h1 | h1
  · exact h j b h1 hb
  · have := hk j b h1 hj hb
    have h2 : b ≠ 43 := fun e => by subst e; simp at this
    have h3 : b ≠ 35 := fun e => by subst e; simp at this
    simp [h2, h3]

set_option maxRecDepth 100000 in
set_option maxHeartbeats 4000000 in
/-- strings.IndexAny of + and #, a text of at most 8 bytes. -/
theorem idxAny_short (s : ByteArray) (w : World) (h8 : s.size ≤ 8) :
    Calls Tryz.prog 182 #[.string s, .string ⟨#[43, 35]⟩] w fun e w' => e = .returned (.int .i64 (Lib.indexAny s.data.toList [43, 35])) ∧ Below w.heap.size w w' := by
  have h8z : decide ((8 : Int) < (s.size : Int)) = false := decide_eq_false (by omega)
  have hsc : Hid (∀ (n : Int) (w : World), Calls Tryz.prog 205 #[.int .i64 n] w fun e w' => e = .returned (.bool (decide (8 < n))) ∧ w' = w) := hid fun n w => Any.strings_shouldUseASCIISet { Tryz.lays153 with } n w
  have IR : Hid (∀ (r : Int) (w : World), 0 ≤ r → r < 128 → Calls Tryz.prog 204 #[.string ⟨#[43, 35]⟩, .int .i32 r] w fun e w' => e = .returned (.int .i64 (Lib.indexByte [43, 35] r.toNat.toUInt8)) ∧ w' = w) := hid fun r w h0 h1 => Any.strings_IndexRune_ascii { Tryz.lays152 with } _ _ _ h0 h1
  have IH := hid idxRune_high
  go_enter Tryz.func182, Tryz.ntmps182
  go_wp2_with (go_at_call 205; refine (hsc.out _ _).mono ?_; rintro e w' ⟨rfl, hw⟩; rw [hw, h8z])
  go_loopg [9, 10] s.size (fun g _ _ wx => ∃ i : Nat, i + g = s.size ∧ Below w.heap.size w wx ∧ wx.heap[w.heap.size]? = some (.stringIter s i) ∧ Lib.NoAny s.data.toList [43, 35] i)
  case atStart => exact ⟨0, by omega, (Below.refl _ _).alloc (Nat.le_refl _) _, World.iter_heap _ _ _, Lib.NoAny.zero _ _⟩
  case round =>
    obtain ⟨i, hig, hbx, hit, hno⟩ := hrel
    have hbx := hid hbx
    have hno := hid hno
    have hit := hid hit
    cases gk with
    | zero =>
      obtain rfl : i = s.size := by omega
      have hnx := fun ty => Lib.run_next_end_at (P := Tryz.prog) wr w.heap.size s s.size ty hit.out (Nat.lt_irrefl _)
      go_wp2
      go_ret
      exact ⟨by rw [Lib.indexAny_none (by rw [← Lib.size_eq]; exact hno.out)]; rfl, hbx.out⟩
    | succ g =>
      have hi : i < s.size := by omega
      obtain ⟨x, hx⟩ : ∃ x : UInt8, s[i]'hi = x := ⟨_, rfl⟩
      have hxl := hid (show s.data.toList[i]? = some x by rw [← hx]; exact Lib.data_getElem? s i hi)
      by_cases hx128 : x.toNat < 128
      · have hnx := fun ty => Lib.run_next_ascii_at (P := Tryz.prog) wr w.heap.size s i ty hit.out hi (by rw [hx]; exact hx128)
        rw [hx] at hnx
        clear hx
        have hcon := Lib.contains_iff_indexByte [43, 35] x
        have hback : ((x.toNat : Int)).toNat.toUInt8 = x := by simp
        cases hin : ([43, 35] : List UInt8).contains x with
        | false =>
          rw [hin] at hcon
          have hlt : ¬ ((0 : Int) ≤ Lib.indexByte [43, 35] x) := of_decide_eq_false hcon.symm
          clear hcon
          have hin := hid hin
          go_wp2_with (go_at_call 204; refine (IR.out _ _ (by omega) (by omega)).mono ?_; rintro e w' ⟨rfl, hw⟩; rw [hw, hback])
          go_roundg g
          case measure => omega
          case rel => exact ⟨i + 1, by omega, Lib.below_iterAt hbx.out (Nat.le_refl _) _ _, Lib.iterAt_heap _ _ _ _ _ hit.out, hno.out.succ hxl.out hin.out⟩
        | true =>
          rw [hin] at hcon
          have hge : (0 : Int) ≤ Lib.indexByte [43, 35] x := of_decide_eq_true hcon.symm
          clear hcon
          have hin := hid hin
          go_wp2_with (go_at_call 204; refine (IR.out _ _ (by omega) (by omega)).mono ?_; rintro e w' ⟨rfl, hw⟩; rw [hw, hback])
          go_ret
          exact ⟨by rw [Lib.indexAny_hit hno.out hxl.out hin.out]; rfl, Lib.below_iterAt hbx.out (Nat.le_refl _) _ _⟩
      · have hnx := fun ty => Lib.run_next_any_at (P := Tryz.prog) wr w.heap.size s i ty hit.out hi
        obtain ⟨r, d, hd⟩ : ∃ r d, Utf8.decode s i = (r, d) := ⟨_, _, rfl⟩
        have hh := decode_high s i hi (by rw [hx]; omega)
        rw [hd] at hnx hh
        dsimp only at hnx hh
        have hr : (128 : Int) ≤ (r : Int) := by omega
        obtain ⟨k1, k2, k3⟩ := decode_step s i hi (by rw [hx]; omega)
        rw [hd] at k1 k2 k3
        dsimp only at k1 k2 k3
        have k3 := hid k3
        have hd := hid hd
        clear hx
        go_wp2_with (go_at_call 204; refine (IH.out _ _ (by omega)).mono ?_; rintro e w' ⟨rfl, hw⟩)
        have hlt : w.heap.size < wr.heap.size := (Array.getElem?_eq_some_iff.1 hit.out).1
        have hsz := Lib.iterAt_size wr w.heap.size s (i + d)
        go_roundg (g + 1 - d)
        case measure => omega
        case rel => exact ⟨i + d, by omega, (Lib.below_iterAt hbx.out (Nat.le_refl _) _ _).trans (hw.mono (by omega)), (hw.block _ (by omega)).trans (Lib.iterAt_heap _ _ _ _ _ hit.out), noAny_step hno.out k3⟩

set_option maxRecDepth 100000 in
set_option maxHeartbeats 1000000 in
theorem anyOK (s : List UInt8) (hs : s.length < 4294967281) : AnyOK s := fun w => by
  have hsz : ByteArray.size ⟨s.toArray⟩ = s.length := by simp [ByteArray.size]
  have CI : Hid (Calls Tryz.prog 182 #[.string ⟨s.toArray⟩, .string ⟨#[43, 35]⟩] w fun e w' => e = .returned (.int .i64 (Lib.indexAny s [43, 35])) ∧ Below w.heap.size w w') := hid <| by
    by_cases h8 : s.length ≤ 8
    · exact idxAny_short ⟨s.toArray⟩ w (by omega)
    · refine (Any.strings_IndexAny_long Tryz.lays153 (zero_of_info (v := .agg (Array.replicate 256 (.bool false))) (n := 256) (by kernel_rfl)).1 (zero_of_info (v := .agg (Array.replicate 256 (.bool false))) (n := 256) (by kernel_rfl)).2 ⟨s.toArray⟩ ⟨#[43, 35]⟩ w (by decide) (by omega) (by omega) (by decide) (fun j b h => ?_)).mono fun e w' ⟨h1, h2⟩ => ⟨h1, ?_⟩
      · rcases j with _ | _ | j <;> simp at h <;> subst h <;> decide
      · rw [h2]
        exact ((Below.refl _ _).alloc (Nat.le_refl _) _).alloc (by simp) _
  go_enter Tryz.func119, Tryz.ntmps119
  go_wp2_with (go_at_call 182; refine CI.out.mono ?_; rintro e w' ⟨rfl, hw⟩)
  go_ret
  exact ⟨rfl, hw⟩
end Go.Proofs.YtoinabapaeebfaaGreatDoor
