/- strings.ContainsAny of + and #, on whatever bytes. · The calls of an outbox, whatever they are given: what is refused. · Rows of an outbox, told. · Blocks as wholes: loads, stores, results. -/
import Derived.Test.YtoinabapaeebfaaGreatDoorPk04
import Derived.Laws.Runes
import Derived.Laws.RangeAny
import Derived.Lib.OthersKept
import Derived.Deep.LoopGhost
import Derived.RegionTactic
import Derived.Deep.QuietTactic
import Derived.BigQuiet
import Derived.Test.YtoinabapaeebfaaGreatDoorPk11
import Derived.Deep.MidRow
set_option linter.unusedSimpArgs false
set_option linter.unusedVariables false
namespace Go.Proofs.YtoinabapaeebfaaGreatDoor
open Go.RowKit Go.Shelf

theorem below_drewN' (w : World) (n : Nat) : Below w.heap.size w (w.drewN n) := by
  induction n with
  | zero => exact Below.refl _ _
  | succ n ih => exact ih.drew
set_option maxRecDepth 100000 in
set_option maxHeartbeats 400000 in
theorem utf8_ValidRune (r : Int) (w : World) :
    Calls Tryz.prog 219 #[.int .i32 r] w fun e w' => (e = .returned (.bool (Utf8.valid r))) ∧ w = w' := by
  by_cases h1 : 0 ≤ r
  · by_cases h2 : r < 55296
    · have hv : Utf8.valid r = true := by unfold Utf8.valid; simp; omega
      go_enter Tryz.func219, Tryz.ntmps219
      go_wp2
      go_ret
      simp [hv]
    · have d2 : decide (r < 55296) = false := decide_eq_false h2
      by_cases h3 : 57343 < r
      · by_cases h4 : r ≤ 1114111
        · have hv : Utf8.valid r = true := by unfold Utf8.valid; simp; omega
          go_enter Tryz.func219, Tryz.ntmps219
          go_wp2
          go_ret
          simp [hv]
        · have d4 : decide (r ≤ 1114111) = false := decide_eq_false h4
          have hv : Utf8.valid r = false := by unfold Utf8.valid; simp; omega
          go_enter Tryz.func219, Tryz.ntmps219
          go_wp2
          go_ret
          simp [hv]
      · have d3 : decide (57343 < r) = false := decide_eq_false h3
        have hv : Utf8.valid r = false := by unfold Utf8.valid; simp; omega
        go_enter Tryz.func219, Tryz.ntmps219
        go_wp2
        go_ret
        simp [hv]
  · have d1 : decide (0 ≤ r) = false := decide_eq_false h1
    have d3 : decide (57343 < r) = false := decide_eq_false (by omega)
    have hv : Utf8.valid r = false := by unfold Utf8.valid; simp; omega
    go_enter Tryz.func219, Tryz.ntmps219
    go_wp2
    go_ret
    simp [hv]

set_option maxRecDepth 100000 in
set_option maxHeartbeats 2000000 in
theorem idxRune_high (r : Int) (w : World) (h128 : 128 ≤ r) :
    Calls Tryz.prog 204 #[.string ⟨#[43, 35]⟩, .int .i32 r] w fun e w' => e = .returned (.int .i64 (-1)) ∧ Below w.heap.size w w' := by
  have d1 : decide (r < 128) = false := decide_eq_false (by omega)
  by_cases he : r = 65533
  · subst he
    go_enter Tryz.func204, Tryz.ntmps204
    go_wp2
    go_loopg [5, 6] 2 (fun g _ _ wx => ∃ i : Nat, i + g = 2 ∧ wx = w.iter ⟨#[43, 35]⟩ i)
    case atStart => exact ⟨0, by omega, rfl⟩
    case round =>
      obtain ⟨i, hig, rfl⟩ := hrel
      cases gk with
      | zero =>
        obtain rfl : i = 2 := by omega
        have hnx := fun ty => run_next_end (P := Tryz.prog) w ⟨#[43, 35]⟩ 2 ty (by decide)
        go_wp2
        go_ret
        exact ⟨rfl, (Below.refl _ _).alloc (Nat.le_refl _) _⟩
      | succ g =>
        have hi : i = 0 ∨ i = 1 := by omega
        rcases hi with rfl | rfl
        · have hnx := fun ty => run_next_ascii (P := Tryz.prog) w ⟨#[43, 35]⟩ 0 ty (by decide) (by decide)
          go_wp2
          go_roundg g
          case measure => omega
          case rel => exact ⟨1, by omega, rfl⟩
        · have hnx := fun ty => run_next_ascii (P := Tryz.prog) w ⟨#[43, 35]⟩ 1 ty (by decide) (by decide)
          go_wp2
          go_roundg g
          case measure => omega
          case rel => exact ⟨2, by omega, rfl⟩
  · have d2 : (r == 65533) = false := by simpa using he
    have CV := hid (utf8_ValidRune r)
    cases hv : Utf8.valid r with
    | false =>
      rw [hv] at CV
      go_enter Tryz.func204, Tryz.ntmps204
      go_wp2_with (go_at_call 219; refine (CV.out _).mono ?_; rintro e w1 ⟨rfl, rfl⟩)
      go_ret
      exact ⟨rfl, Below.refl _ _⟩
    | true =>
      rw [hv] at CV
      obtain ⟨g1, g2, g3⟩ := encode_facts r hv h128
      obtain ⟨E, hE⟩ : ∃ E, Utf8.encode r = E := ⟨_, rfl⟩
      rw [hE] at g1 g2 g3
      have hE := hid hE
      by_cases hs2 : E.size = 2
      · have IB : Hid (∀ (s : ByteArray) (c : Int) (w : World), Calls Tryz.prog 218 #[.string s, .int .u8 c] w fun e w' => e = .returned (.int .i64 (Lib.indexByte s.data.toList c.toNat.toUInt8)) ∧ w' = w) := hid fun s c w => Any.strings_IndexByte { Tryz.lays152 with } s c w
        have g4 : ∀ h, 128 ≤ ((E[1]'h).toNat : Int) := fun h => by
          have := g3 (by omega)
          have e : E.size - 1 = 1 := by omega
          simp only [e] at this
          omega
        obtain ⟨c, hc⟩ : ∃ c : Int, ((E[1]'(by omega)).toNat : Int) = c := ⟨_, rfl⟩
        have g5 : ∀ h, ((E[1]'h).toNat : Int) = c := fun h => hc
        have hcb := g4 (by omega)
        rw [hc] at hcb
        have nb : ∀ h, (⟨#[43, 35]⟩ : ByteArray)[1]'h = 35 := fun _ => rfl
        have n0 : ((35 : Int) != c) = true := by simp; omega
        have nc : ((35 : UInt8).toNat : Int) = 35 := rfl
        have hsz : (E.size : Int) = 2 := by omega
        clear g1 g2 g3 g4 hc
        go_enter Tryz.func204, Tryz.ntmps204
        go_wp2_with (go_at_call 219; refine (CV.out _).mono ?_; rintro e w1 ⟨rfl, rfl⟩)
        refine wp_scope_straight ?_
        go_wp2
        go_loopw [9, 10] (fun i f wr => i = .int .i64 1 ∧ f = .int .i64 0 ∧ wr = w) (fun _ _ _ => 0)
        case atStart => exact ⟨rfl, rfl, rfl⟩
        case round =>
          obtain ⟨rfl, rfl, rfl⟩ := hrel
          go_wp2
          refine wp_scope_straight ?_
          go_wp2
          go_quiet (fail)
          go_wp2
          have hw2 : IntKind.i64.wrap 2 = 2 := by decide
          have hsl : ∀ W : World, (Instr.slice 9 (.string ⟨#[43, 35]⟩) (some (.int .i64 2)) none none).run Tryz.prog W = .ok (.string ⟨#[]⟩) W := fun W => by kernel_rfl
          have hii : Lib.indexByte [] c.toNat.toUInt8 = -1 := rfl
          go_quiet ((refine (IB.out _ _ _).mono fun e w' h => ⟨h.1, _, h.2⟩))
          go_wp2
          rw [Exit.noGoto_ret]
          go_wp2
          rw [Exit.noGoto_ret]
          go_ret
          exact ⟨rfl, below_drewN' _ _⟩
      · have hge : (2 : Int) < (E.size : Int) := by omega
        have hge4 : (E.size : Int) ≤ 4 := by omega
        obtain ⟨n, hn⟩ : ∃ n : Int, (E.size : Int) = n := ⟨_, rfl⟩
        rw [hn] at hge hge4
        have d3 : decide (n - 1 < 2) = false := decide_eq_false (by omega)
        have hw : wrap64 (n - 1) = n - 1 := by unfold wrap64; omega
        clear g1 g2 g3
        go_enter Tryz.func204, Tryz.ntmps204
        go_wp2_with (go_at_call 219; refine (CV.out _).mono ?_; rintro e w1 ⟨rfl, rfl⟩)
        refine wp_scope_straight ?_
        go_wp2
        go_loopw [9, 10] (fun i f wr => i = .int .i64 (n - 1) ∧ f = .int .i64 0 ∧ wr = w) (fun _ _ _ => 0)
        case atStart => exact ⟨rfl, rfl, rfl⟩
        case round =>
          obtain ⟨rfl, rfl, rfl⟩ := hrel
          go_wp2
          rw [Exit.noGoto_ret]
          go_ret
          exact ⟨rfl, Below.refl _ _⟩

/-- A rune of more bytes: none of them below 128. -/
theorem decode_step (s : ByteArray) (i : Nat) (h : i < s.size) (ha : 128 ≤ (s[i]'h).toNat) :
    1 ≤ (Utf8.decode s i).2 ∧ i + (Utf8.decode s i).2 ≤ s.size ∧ ∀ j b, i ≤ j → j < i + (Utf8.decode s i).2 → s.data.toList[j]? = some b → 128 ≤ b.toNat := by
  have hat : ∀ k b, s.data.toList[i + k]? = some b → (s.get! (i + k)) = b := fun k b hb => by
    have hlt : i + k < s.size := by rw [Lib.size_eq]; exact (List.getElem?_eq_some_iff.1 hb).1
    have := Lib.data_getElem? s (i + k) hlt
    rw [this] at hb
    simp only [Option.some.injEq] at hb
    rw [← hb]
    simp [ByteArray.get!, getElem!_pos, hlt]
    rfl
  have cont : ∀ k, (s.get! (i + k)).toNat / 64 = 2 → 128 ≤ (s.get! (i + k)).toNat := fun k h => by omega
  have key : ∀ d, (∀ k, 1 ≤ k → k < d → i + k < s.size ∧ (s.get! (i + k)).toNat / 64 = 2) → 1 ≤ d → 1 ≤ d ∧ i + d ≤ s.size ∧ ∀ j b, i ≤ j → j < i + d → s.data.toList[j]? = some b → 128 ≤ b.toNat := by
    intro d hk hd
    refine ⟨hd, ?_, fun j b h1 h2 hb => ?_⟩
    · rcases Nat.lt_or_ge 1 d with h1 | h1
      · have := (hk (d - 1) (by omega) (by omega)).1; omega
      · omega
    · obtain ⟨k, rfl⟩ : ∃ k, j = i + k := ⟨j - i, by omega⟩
      rcases Nat.eq_zero_or_pos k with h0 | h0
      · subst h0
        have := hat 0 b hb
        rw [get_at s i h] at this
        rw [← this]; exact ha
      · rw [← hat k b hb]; exact cont k (hk k h0 (by omega)).2
  have one : 1 ≤ 1 ∧ i + 1 ≤ s.size ∧ ∀ j b, i ≤ j → j < i + 1 → s.data.toList[j]? = some b → 128 ≤ b.toNat := key 1 (fun k h1 h2 => by omega) (Nat.le_refl _)
  have hn : ¬ (s[i]'h).toNat < 128 := by omega
  unfold Utf8.decode
  simp only [get_at s i h, hn, if_false]
  split
  · rename_i hc
    simp only [Bool.and_eq_true, beq_iff_eq, decide_eq_true_eq] at hc
    split
    · exact key 2 (fun k h1 h2 => by obtain rfl : k = 1 := by omega
                                     exact hc.2) (by omega)
    · exact one
  · split
    · rename_i hc
      simp only [Bool.and_eq_true, beq_iff_eq, decide_eq_true_eq] at hc
      split
      · exact key 3 (fun k h1 h2 => by
          rcases (by omega : k = 1 ∨ k = 2) with rfl | rfl
          · exact hc.1.2
          · exact hc.2) (by omega)
      · exact one
    · split
      · rename_i hc
        simp only [Bool.and_eq_true, beq_iff_eq, decide_eq_true_eq] at hc
        split
        · exact key 4 (fun k h1 h2 => by
            rcases (by omega : k = 1 ∨ k = 2 ∨ k = 3) with rfl | rfl | rfl
            · exact hc.1.1.2
            · exact hc.1.2
            · exact hc.2) (by omega)
        · exact one
      · exact one
theorem noAny_step {s : List UInt8} {i d : Nat} (h : Lib.NoAny s [43, 35] i) (hk : ∀ j b, i ≤ j → j < i + d → s[j]? = some b → 128 ≤ b.toNat) : Lib.NoAny s [43, 35] (i + d) := fun j b hj hb => by
  rcases Nat.lt_or_ge j i with h1 | h1
  · exact h j b h1 hb
  · have := hk j b h1 hj hb
    have h2 : b ≠ 43 := fun e => by subst e; simp at this
    have h3 : b ≠ 35 := fun e => by subst e; simp at this
    simp [h2, h3]

set_option maxRecDepth 100000 in
set_option maxHeartbeats 4000000 in
/-- strings.IndexAny of + and #, a text of at most 8 bytes. -/
theorem idxAny_short (s : ByteArray) (w : World) (h8 : s.size ≤ 8) :
    Calls Tryz.prog 182 #[.string s, .string ⟨#[43, 35]⟩] w fun e w' => e = .returned (.int .i64 (Lib.indexAny s.data.toList [43, 35])) ∧ Below w.heap.size w w' := by
  have h8z : decide ((8 : Int) < (s.size : Int)) = false := decide_eq_false (by omega)
  have hsc : Hid (∀ (n : Int) (w : World), Calls Tryz.prog 205 #[.int .i64 n] w fun e w' => e = .returned (.bool (decide (8 < n))) ∧ w' = w) := hid fun n w => Any.strings_shouldUseASCIISet { Tryz.lays153 with } n w
  have IR : Hid (∀ (r : Int) (w : World), 0 ≤ r → r < 128 → Calls Tryz.prog 204 #[.string ⟨#[43, 35]⟩, .int .i32 r] w fun e w' => e = .returned (.int .i64 (Lib.indexByte [43, 35] r.toNat.toUInt8)) ∧ w' = w) := hid fun r w h0 h1 => Any.strings_IndexRune_ascii { Tryz.lays152 with } _ _ _ h0 h1
  have IH := hid idxRune_high
  go_enter Tryz.func182, Tryz.ntmps182
  go_wp2_with (go_at_call 205; refine (hsc.out _ _).mono ?_; rintro e w' ⟨rfl, hw⟩; rw [hw, h8z])
  go_loopg [9, 10] s.size (fun g _ _ wx => ∃ i : Nat, i + g = s.size ∧ Below w.heap.size w wx ∧ wx.heap[w.heap.size]? = some (.stringIter s i) ∧ Lib.NoAny s.data.toList [43, 35] i)
  case atStart => exact ⟨0, by omega, (Below.refl _ _).alloc (Nat.le_refl _) _, World.iter_heap _ _ _, Lib.NoAny.zero _ _⟩
  case round =>
    obtain ⟨i, hig, hbx, hit, hno⟩ := hrel
    have hbx := hid hbx
    have hno := hid hno
    have hit := hid hit
    cases gk with
    | zero =>
      obtain rfl : i = s.size := by omega
      have hnx := fun ty => Lib.run_next_end_at (P := Tryz.prog) wr w.heap.size s s.size ty hit.out (Nat.lt_irrefl _)
      go_wp2
      go_ret
      exact ⟨by rw [Lib.indexAny_none (by rw [← Lib.size_eq]; exact hno.out)]; rfl, hbx.out⟩
    | succ g =>
      have hi : i < s.size := by omega
      obtain ⟨x, hx⟩ : ∃ x : UInt8, s[i]'hi = x := ⟨_, rfl⟩
      have hxl := hid (show s.data.toList[i]? = some x by rw [← hx]; exact Lib.data_getElem? s i hi)
      by_cases hx128 : x.toNat < 128
      · have hnx := fun ty => Lib.run_next_ascii_at (P := Tryz.prog) wr w.heap.size s i ty hit.out hi (by rw [hx]; exact hx128)
        rw [hx] at hnx
        clear hx
        have hcon := Lib.contains_iff_indexByte [43, 35] x
        have hback : ((x.toNat : Int)).toNat.toUInt8 = x := by simp
        cases hin : ([43, 35] : List UInt8).contains x with
        | false =>
          rw [hin] at hcon
          have hlt : ¬ ((0 : Int) ≤ Lib.indexByte [43, 35] x) := of_decide_eq_false hcon.symm
          clear hcon
          have hin := hid hin
          go_wp2_with (go_at_call 204; refine (IR.out _ _ (by omega) (by omega)).mono ?_; rintro e w' ⟨rfl, hw⟩; rw [hw, hback])
          go_roundg g
          case measure => omega
          case rel => exact ⟨i + 1, by omega, Lib.below_iterAt hbx.out (Nat.le_refl _) _ _, Lib.iterAt_heap _ _ _ _ _ hit.out, hno.out.succ hxl.out hin.out⟩
        | true =>
          rw [hin] at hcon
          have hge : (0 : Int) ≤ Lib.indexByte [43, 35] x := of_decide_eq_true hcon.symm
          clear hcon
          have hin := hid hin
          go_wp2_with (go_at_call 204; refine (IR.out _ _ (by omega) (by omega)).mono ?_; rintro e w' ⟨rfl, hw⟩; rw [hw, hback])
          go_ret
          exact ⟨by rw [Lib.indexAny_hit hno.out hxl.out hin.out]; rfl, Lib.below_iterAt hbx.out (Nat.le_refl _) _ _⟩
      · have hnx := fun ty => Lib.run_next_any_at (P := Tryz.prog) wr w.heap.size s i ty hit.out hi
        obtain ⟨r, d, hd⟩ : ∃ r d, Utf8.decode s i = (r, d) := ⟨_, _, rfl⟩
        have hh := decode_high s i hi (by rw [hx]; omega)
        rw [hd] at hnx hh
        dsimp only at hnx hh
        have hr : (128 : Int) ≤ (r : Int) := by omega
        obtain ⟨k1, k2, k3⟩ := decode_step s i hi (by rw [hx]; omega)
        rw [hd] at k1 k2 k3
        dsimp only at k1 k2 k3
        have k3 := hid k3
        have hd := hid hd
        clear hx
        go_wp2_with (go_at_call 204; refine (IH.out _ _ (by omega)).mono ?_; rintro e w' ⟨rfl, hw⟩)
        have hlt : w.heap.size < wr.heap.size := (Array.getElem?_eq_some_iff.1 hit.out).1
        have hsz := Lib.iterAt_size wr w.heap.size s (i + d)
        go_roundg (g + 1 - d)
        case measure => omega
        case rel => exact ⟨i + d, by omega, (Lib.below_iterAt hbx.out (Nat.le_refl _) _ _).trans (hw.mono (by omega)), (hw.block _ (by omega)).trans (Lib.iterAt_heap _ _ _ _ _ hit.out), noAny_step hno.out k3⟩

set_option maxRecDepth 100000 in
set_option maxHeartbeats 1000000 in
theorem anyOK (s : List UInt8) (hs : s.length < 4294967281) : AnyOK s := fun w => by
  have hsz : ByteArray.size ⟨s.toArray⟩ = s.length := by simp [ByteArray.size]
  have CI : Hid (Calls Tryz.prog 182 #[.string ⟨s.toArray⟩, .string ⟨#[43, 35]⟩] w fun e w' => e = .returned (.int .i64 (Lib.indexAny s [43, 35])) ∧ Below w.heap.size w w') := hid <| by
    by_cases h8 : s.length ≤ 8
    · exact idxAny_short ⟨s.toArray⟩ w (by omega)
    · refine (Any.strings_IndexAny_long Tryz.lays153 (zero_of_info (v := .agg (Array.replicate 256 (.bool false))) (n := 256) (by kernel_rfl)).1 (zero_of_info (v := .agg (Array.replicate 256 (.bool false))) (n := 256) (by kernel_rfl)).2 ⟨s.toArray⟩ ⟨#[43, 35]⟩ w (by decide) (by omega) (by omega) (by decide) (fun j b h => ?_)).mono fun e w' ⟨h1, h2⟩ => ⟨h1, ?_⟩
      · rcases j with _ | _ | j <;> simp at h <;> subst h <;> decide
      · rw [h2]
        exact ((Below.refl _ _).alloc (Nat.le_refl _) _).alloc (by simp) _
  go_enter Tryz.func119, Tryz.ntmps119
  go_wp2_with (go_at_call 182; refine CI.out.mono ?_; rintro e w' ⟨rfl, hw⟩)
  go_ret
  exact ⟨rfl, hw⟩
end Go.Proofs.YtoinabapaeebfaaGreatDoor
namespace Go.Proofs.YtoinabapaeebfaaGreatDoor
open Go.RowKit Go.Shelf

set_option maxRecDepth 100000 in
set_option maxHeartbeats 1000000 in
theorem out_Put_arg {w : World} {B : Nat} {L : Lay} {s : OS} {ps : List PackV} {cs : List ChangeV} (h : OB w B L s ps cs) (topic body : List UInt8) (qos : Int) (retain : Bool)
    (ht : topic.length ≤ 9223372036854775807) (hA : AnyOK topic) (hmay : putMay (s.row topic body qos retain) = false) :
    Calls Tryz.prog 41 #[.pointer (some ⟨L.p, 0, none⟩), .string ⟨topic.toArray⟩, .string ⟨body.toArray⟩, .int .i64 qos, .bool retain] w fun e w' => e = .returned (.tuple #[.agg #[.slice none 0 0, .slice none 0 0], .int .i64 2]) ∧ Below w.heap.size w w' := by
  have CK := hid fun w1 => rec_Check_put (s.row topic body qos retain) w1 rfl rfl rfl (by have := h.ok.cl; show s.client.length ≤ _; omega) ht hA
  rw [if_neg (by rw [hmay]; simp)] at CK
  obtain ⟨r, hr⟩ : ∃ r, s.row topic body qos retain = r := ⟨_, rfl⟩
  have hrv : r.vals = #[.int .i64 3, .string ⟨s.client.toArray⟩, .int .i64 s.seq, .int .i64 0, .string ⟨topic.toArray⟩, .string ⟨body.toArray⟩, .int .i64 qos, .bool retain, .int .i64 1] := by rw [← hr]; rfl
  rw [hr] at CK
  rw [hrv] at CK
  have hok := h.ok
  obtain ⟨client, window, room, seq, id, l⟩ := s
  obtain ⟨p, ib, sb, vl, vp, vc, rb, W⟩ := L
  dsimp only at hok CK ⊢
  have hvl := h.rows
  try dsimp only at hvl
  obtain ⟨al, cl, rfl⟩ := own_slice hvl
  replace hvl := hid hvl
  have hlen := hok.room
  clear hok hr hmay
  have CN := hid fun (w1 : World) (hb : Below w.heap.size w w1) => out_none (h.below hb)
  try dsimp only at CN
  have c1 : ∀ o, (w.alloc o).cell? ⟨p, 1, none⟩ = some (.string ⟨client.toArray⟩) := fun o => (h.box.alloc o).cell 1
  have c4 : ∀ o, (w.alloc o).cell? ⟨p, 4, none⟩ = some (.int .i64 seq) := fun o => (h.box.alloc o).cell 4
  have hp : p < w.heap.size := h.box.lt
  try dsimp only at hp
  go_enter Tryz.func41, Tryz.ntmps41
  go_wp2_with (go_at_call 58; refine (CN.out _ ((Below.refl _ w).alloc (Nat.le_refl _) _)).mono ?_; rintro e w1 ⟨rfl, rfl⟩)
  go_region
  go_wp2_with fail
  refine (CK.out _).mono ?_
  clear CK
  rintro e w2 ⟨rfl, hb2⟩
  have hB2 : Below w.heap.size w w2 := ((((Below.refl _ w).alloc (Nat.le_refl _) _).alloc (by simp) _).drew).trans (hb2.mono (by simp; omega))
  have hDid2 := ((Blk.new w #[.slice none 0 0, .slice none 0 0] 53).alloc (.cells #[.int .i64 3, .string ⟨client.toArray⟩, .int .i64 seq, .int .i64 0, .string ⟨topic.toArray⟩, .string ⟨body.toArray⟩, .int .i64 qos, .bool retain, .int .i64 1] 33)).drew.below hb2
  clear hb2 c1 c4 CN
  have hp2 : p ≠ w.heap.size := by omega
  have k0 := hDid2.cell 0
  have k1 := hDid2.cell 1
  try dsimp only at k0 k1
  have b0 := hDid2.frozen 0
  have b1 := hDid2.frozen 1
  go_wp2
  refine bodyPost_gen (fun W' => W'.cell? ⟨w.heap.size, 0, none⟩ = some (.slice none 0 0) ∧ W'.cell? ⟨w.heap.size, 1, none⟩ = some (.slice none 0 0) ∧ Below w.heap.size w W') ⟨((hDid2.set 0 _).set 1 _).cell 0, ((hDid2.set 0 _).set 1 _).cell 1, (hB2.setCell (Nat.le_refl _) _).setCell (Nat.le_refl _) _⟩ ?_
  rintro W' ⟨e0, e1, hW⟩
  exact bodyPost_ret (v := .tuple #[.agg #[.slice none 0 0, .slice none 0 0], .int .i64 2]) (by simp [results, Tryz.results41, go_sem, e0, e1]) rfl ⟨rfl, hW⟩
set_option maxRecDepth 100000 in
set_option maxHeartbeats 1000000 in
theorem out_Put_full {w : World} {B : Nat} {L : Lay} {s : OS} {ps : List PackV} {cs : List ChangeV} (h : OB w B L s ps cs) (topic body : List UInt8) (qos : Int) (retain : Bool)
    (ht : topic.length ≤ 9223372036854775807) (hA : AnyOK topic) (hmay : putMay (s.row topic body qos retain) = true) (hroom : s.room ≤ (s.l.length : Int)) :
    Calls Tryz.prog 41 #[.pointer (some ⟨L.p, 0, none⟩), .string ⟨topic.toArray⟩, .string ⟨body.toArray⟩, .int .i64 qos, .bool retain] w fun e w' => e = .returned (.tuple #[.agg #[.slice none 0 0, .slice none 0 0], .int .i64 150]) ∧ Below w.heap.size w w' := by
  have CK := hid fun w1 => rec_Check_put (s.row topic body qos retain) w1 rfl rfl rfl (by have := h.ok.cl; show s.client.length ≤ _; omega) ht hA
  rw [if_pos hmay] at CK
  obtain ⟨r, hr⟩ : ∃ r, s.row topic body qos retain = r := ⟨_, rfl⟩
  have hrv : r.vals = #[.int .i64 3, .string ⟨s.client.toArray⟩, .int .i64 s.seq, .int .i64 0, .string ⟨topic.toArray⟩, .string ⟨body.toArray⟩, .int .i64 qos, .bool retain, .int .i64 1] := by rw [← hr]; rfl
  rw [hr] at CK
  rw [hrv] at CK
  have hok := h.ok
  obtain ⟨client, window, room, seq, id, l⟩ := s
  obtain ⟨p, ib, sb, vl, vp, vc, rb, W⟩ := L
  dsimp only at hok CK ⊢
  have hvl := h.rows
  try dsimp only at hvl
  obtain ⟨al, cl, rfl⟩ := own_slice hvl
  replace hvl := hid hvl
  have hlen := hok.room
  clear hok hr hmay
  have CN := hid fun (w1 : World) (hb : Below w.heap.size w w1) => out_none (h.below hb)
  try dsimp only at CN
  have c1 : ∀ o, (w.alloc o).cell? ⟨p, 1, none⟩ = some (.string ⟨client.toArray⟩) := fun o => (h.box.alloc o).cell 1
  have c4 : ∀ o, (w.alloc o).cell? ⟨p, 4, none⟩ = some (.int .i64 seq) := fun o => (h.box.alloc o).cell 4
  have hp : p < w.heap.size := h.box.lt
  try dsimp only at hp
  dsimp only at hroom
  go_enter Tryz.func41, Tryz.ntmps41
  go_wp2_with (go_at_call 58; refine (CN.out _ ((Below.refl _ w).alloc (Nat.le_refl _) _)).mono ?_; rintro e w1 ⟨rfl, rfl⟩)
  go_region
  go_wp2_with fail
  refine (CK.out _).mono ?_
  clear CK
  rintro e w2 ⟨rfl, hb2⟩
  have hB2 : Below w.heap.size w w2 := ((((Below.refl _ w).alloc (Nat.le_refl _) _).alloc (by simp) _).drew).trans (hb2.mono (by simp; omega))
  have hDid2 := ((Blk.new w #[.slice none 0 0, .slice none 0 0] 53).alloc (.cells #[.int .i64 3, .string ⟨client.toArray⟩, .int .i64 seq, .int .i64 0, .string ⟨topic.toArray⟩, .string ⟨body.toArray⟩, .int .i64 qos, .bool retain, .int .i64 1] 33)).drew.below hb2
  clear hb2 c1 c4 CN
  have hp2 : p ≠ w.heap.size := by omega
  have HO2 := hid (h.below hB2)
  have k6 : w2.cell? ⟨p, 6, none⟩ = some (.slice al l.length cl) := HO2.out.box.cell 6
  have k3 : w2.cell? ⟨p, 3, none⟩ = some (.int .i64 room) := HO2.out.box.cell 3
  have d1 : decide (room ≤ (l.length : Int)) = true := decide_eq_true (by omega)
  go_wp2_with fail
  go_region
  clear k6 k3
  have k0 := hDid2.cell 0
  have k1 := hDid2.cell 1
  try dsimp only at k0 k1
  have b0 := hDid2.frozen 0
  have b1 := hDid2.frozen 1
  go_wp2
  refine bodyPost_gen (fun W' => W'.cell? ⟨w.heap.size, 0, none⟩ = some (.slice none 0 0) ∧ W'.cell? ⟨w.heap.size, 1, none⟩ = some (.slice none 0 0) ∧ Below w.heap.size w W') ⟨((hDid2.drew.set 0 _).set 1 _).cell 0, ((hDid2.drew.set 0 _).set 1 _).cell 1, (hB2.drew.setCell (Nat.le_refl _) _).setCell (Nat.le_refl _) _⟩ ?_
  rintro W' ⟨e0, e1, hW⟩
  exact bodyPost_ret (v := .tuple #[.agg #[.slice none 0 0, .slice none 0 0], .int .i64 150]) (by simp [results, Tryz.results41, go_sem, e0, e1]) rfl ⟨rfl, hW⟩

theorem nilFunc_nil (W : World) : (binOp .eql 164 .nilFunc .nilFunc).run Tryz.prog W = .ok (.bool true) W := by
  have h : (Op.equal 164 .nilFunc .nilFunc).run Tryz.prog W = .ok true W := by
    unfold Op.equal
    rw [show Op.maxDepth = (Op.maxDepth - 1) + 1 from rfl]
    unfold Op.equalIn
    simp [run_underlying Tryz.underlying164]
  simp [binOp, h]
theorem keys3 {x : MapEntry} {a b c : Int} {va vb vc : Value} {k : Int} {n1 n2 n3 : Nat} (hx : x ∈ [(⟨.int .i64 a, va, n1⟩ : MapEntry), ⟨.int .i64 b, vb, n2⟩, ⟨.int .i64 c, vc, n3⟩]) (h1 : k ≠ a) (h2 : k ≠ b) (h3 : k ≠ c) : ∃ d, x.key = .int .i64 d ∧ d ≠ k := by
  simp only [List.mem_cons, List.not_mem_nil, or_false] at hx
  rcases hx with rfl | rfl | rfl
  · exact ⟨a, rfl, Ne.symm h1⟩
  · exact ⟨b, rfl, Ne.symm h2⟩
  · exact ⟨c, rfl, Ne.symm h3⟩
set_option maxRecDepth 100000 in
set_option maxHeartbeats 2000000 in
/-- Hear, of what is no answer or no ID. -/
theorem out_Hear_bad {w : World} {B : Nat} {L : Lay} {s : OS} {ps : List PackV} {cs : List ChangeV} (h : OB w B L s ps cs) (k z : Int) (hk : ¬ ((k = 4 ∨ k = 5 ∨ k = 7) ∧ 1 ≤ z ∧ z ≤ 65535)) :
    Calls Tryz.prog 43 #[.pointer (some ⟨L.p, 0, none⟩), .int .i64 k, .int .i64 z] w fun e w' => e = .returned (.tuple #[.agg #[.slice none 0 0, .slice none 0 0], .int .i64 2]) ∧ Below w.heap.size w w' := by
  have CN := hid fun (w1 : World) (hb : Below w.heap.size w w1) => out_none (h.below hb)
  have hmm := @run_makeMap Tryz.prog
  have hb0 : ((w.alloc (.cells #[.slice none 0 0, .slice none 0 0] 53)).alloc (.map #[] 0)).heap[w.heap.size + 1]? = some (.map #[] 0) := by simpa using World.alloc_heap_new (w.alloc (.cells #[.slice none 0 0, .slice none 0 0] 53)) (.map #[] 0)
  have B0 : Below w.heap.size w ((w.alloc (.cells #[.slice none 0 0, .slice none 0 0] 53)).alloc (.map #[] 0)) := ((Below.refl _ w).alloc (Nat.le_refl _) _).alloc (by simp) _
  have D0 := (Blk.new w #[.slice none 0 0, .slice none 0 0] 53).alloc (.map #[] 0)
  have Z0 : ((w.alloc (.cells #[.slice none 0 0, .slice none 0 0] 53)).alloc (.map #[] 0)).heap.size ≥ w.heap.size + 2 := by simp
  by_cases hkk : k = 4 ∨ k = 5 ∨ k = 7
  · have hz : ¬ (1 ≤ z ∧ z ≤ 65535) := fun hz => hk ⟨hkk, hz⟩
    have hnil := func_not_nil
    by_cases hz1 : z < 1
    · have dz : decide (z < 1) = true := decide_eq_true hz1
      rcases hkk with rfl | rfl | rfl
      · skip
        go_enter Tryz.func43, Tryz.ntmps43
        go_wp2_with (
          refine wpList_insert_new _ rfl _ _ _ 166 rfl 41 164 .i64 Tryz.underlying166 Tryz.underlying41 _ _ _ rfl (by with_reducible assumption) _ _ rfl rfl (by simp [putE]) ?_
          intro w1 hb1 hg1
          replace B0 := B0.grown hg1 B0.size (fun k hk => by cases hk; omega)
          replace D0 := D0.keep (hg1.block _ (by omega) (by simp))
          replace Z0 := Nat.le_trans Z0 hg1.size
          try (have HL := run_lookup_at (P := Tryz.prog) 166 41 164 .i64 Tryz.underlying166 Tryz.underlying41 _ _ _ _ hb1 4 _ 0 rfl false)
          clear hg1)
        refine (CN.out _ B0).mono ?_
        rintro e w2 ⟨rfl, rfl⟩
        have y0 : w1.cell? ⟨w.heap.size, 0, none⟩ = some (.slice none 0 0) := D0.cell 0
        have y1 : w1.cell? ⟨w.heap.size, 1, none⟩ = some (.slice none 0 0) := D0.cell 1
        have z0 := D0.frozen 0
        have z1 := D0.frozen 1
        go_wp2
        refine bodyPost_gen (fun W' => W'.cell? ⟨w.heap.size, 0, none⟩ = some (.slice none 0 0) ∧ W'.cell? ⟨w.heap.size, 1, none⟩ = some (.slice none 0 0) ∧ Wrote [w.heap.size] w1 W') ⟨((D0.set 0 _).set 1 _).cell 0, ((D0.set 0 _).set 1 _).cell 1, (Wrote.setCell (M := [w.heap.size]) w1 ⟨w.heap.size, 0, none⟩ (by simp) _).trans (Wrote.setCell _ ⟨w.heap.size, 1, none⟩ (by simp) _)⟩ ?_
        rintro W' ⟨e0, e1, hW⟩
        refine bodyPost_ret (v := .tuple #[.agg #[.slice none 0 0, .slice none 0 0], .int .i64 2]) (by simp [results, Tryz.results43, go_sem, e0, e1]) rfl ?_
        exact ⟨rfl, B0.trans (hW.below B0.size (by simp))⟩
      · skip
        go_enter Tryz.func43, Tryz.ntmps43
        go_wp2_with (
          refine wpList_insert_new _ rfl _ _ _ 166 rfl 41 164 .i64 Tryz.underlying166 Tryz.underlying41 _ _ _ rfl (by with_reducible assumption) _ _ rfl rfl (by simp [putE]) ?_
          intro w1 hb1 hg1
          replace B0 := B0.grown hg1 B0.size (fun k hk => by cases hk; omega)
          replace D0 := D0.keep (hg1.block _ (by omega) (by simp))
          replace Z0 := Nat.le_trans Z0 hg1.size
          try (have HL := run_lookup_at (P := Tryz.prog) 166 41 164 .i64 Tryz.underlying166 Tryz.underlying41 _ _ _ _ hb1 5 _ 1 rfl false)
          clear hg1)
        refine (CN.out _ B0).mono ?_
        rintro e w2 ⟨rfl, rfl⟩
        have y0 : w1.cell? ⟨w.heap.size, 0, none⟩ = some (.slice none 0 0) := D0.cell 0
        have y1 : w1.cell? ⟨w.heap.size, 1, none⟩ = some (.slice none 0 0) := D0.cell 1
        have z0 := D0.frozen 0
        have z1 := D0.frozen 1
        go_wp2
        refine bodyPost_gen (fun W' => W'.cell? ⟨w.heap.size, 0, none⟩ = some (.slice none 0 0) ∧ W'.cell? ⟨w.heap.size, 1, none⟩ = some (.slice none 0 0) ∧ Wrote [w.heap.size] w1 W') ⟨((D0.set 0 _).set 1 _).cell 0, ((D0.set 0 _).set 1 _).cell 1, (Wrote.setCell (M := [w.heap.size]) w1 ⟨w.heap.size, 0, none⟩ (by simp) _).trans (Wrote.setCell _ ⟨w.heap.size, 1, none⟩ (by simp) _)⟩ ?_
        rintro W' ⟨e0, e1, hW⟩
        refine bodyPost_ret (v := .tuple #[.agg #[.slice none 0 0, .slice none 0 0], .int .i64 2]) (by simp [results, Tryz.results43, go_sem, e0, e1]) rfl ?_
        exact ⟨rfl, B0.trans (hW.below B0.size (by simp))⟩
      · skip
        go_enter Tryz.func43, Tryz.ntmps43
        go_wp2_with (
          refine wpList_insert_new _ rfl _ _ _ 166 rfl 41 164 .i64 Tryz.underlying166 Tryz.underlying41 _ _ _ rfl (by with_reducible assumption) _ _ rfl rfl (by simp [putE]) ?_
          intro w1 hb1 hg1
          replace B0 := B0.grown hg1 B0.size (fun k hk => by cases hk; omega)
          replace D0 := D0.keep (hg1.block _ (by omega) (by simp))
          replace Z0 := Nat.le_trans Z0 hg1.size
          try (have HL := run_lookup_at (P := Tryz.prog) 166 41 164 .i64 Tryz.underlying166 Tryz.underlying41 _ _ _ _ hb1 7 _ 2 rfl false)
          clear hg1)
        refine (CN.out _ B0).mono ?_
        rintro e w2 ⟨rfl, rfl⟩
        have y0 : w1.cell? ⟨w.heap.size, 0, none⟩ = some (.slice none 0 0) := D0.cell 0
        have y1 : w1.cell? ⟨w.heap.size, 1, none⟩ = some (.slice none 0 0) := D0.cell 1
        have z0 := D0.frozen 0
        have z1 := D0.frozen 1
        go_wp2
        refine bodyPost_gen (fun W' => W'.cell? ⟨w.heap.size, 0, none⟩ = some (.slice none 0 0) ∧ W'.cell? ⟨w.heap.size, 1, none⟩ = some (.slice none 0 0) ∧ Wrote [w.heap.size] w1 W') ⟨((D0.set 0 _).set 1 _).cell 0, ((D0.set 0 _).set 1 _).cell 1, (Wrote.setCell (M := [w.heap.size]) w1 ⟨w.heap.size, 0, none⟩ (by simp) _).trans (Wrote.setCell _ ⟨w.heap.size, 1, none⟩ (by simp) _)⟩ ?_
        rintro W' ⟨e0, e1, hW⟩
        refine bodyPost_ret (v := .tuple #[.agg #[.slice none 0 0, .slice none 0 0], .int .i64 2]) (by simp [results, Tryz.results43, go_sem, e0, e1]) rfl ?_
        exact ⟨rfl, B0.trans (hW.below B0.size (by simp))⟩
    · have dz : decide (z < 1) = false := decide_eq_false hz1
      have dz2 : decide (65535 < z) = true := decide_eq_true (by omega)
      rcases hkk with rfl | rfl | rfl
      · skip
        go_enter Tryz.func43, Tryz.ntmps43
        go_wp2_with (
          refine wpList_insert_new _ rfl _ _ _ 166 rfl 41 164 .i64 Tryz.underlying166 Tryz.underlying41 _ _ _ rfl (by with_reducible assumption) _ _ rfl rfl (by simp [putE]) ?_
          intro w1 hb1 hg1
          replace B0 := B0.grown hg1 B0.size (fun k hk => by cases hk; omega)
          replace D0 := D0.keep (hg1.block _ (by omega) (by simp))
          replace Z0 := Nat.le_trans Z0 hg1.size
          try (have HL := run_lookup_at (P := Tryz.prog) 166 41 164 .i64 Tryz.underlying166 Tryz.underlying41 _ _ _ _ hb1 4 _ 0 rfl false)
          clear hg1)
        refine (CN.out _ B0).mono ?_
        rintro e w2 ⟨rfl, rfl⟩
        have y0 : w1.cell? ⟨w.heap.size, 0, none⟩ = some (.slice none 0 0) := D0.cell 0
        have y1 : w1.cell? ⟨w.heap.size, 1, none⟩ = some (.slice none 0 0) := D0.cell 1
        have z0 := D0.frozen 0
        have z1 := D0.frozen 1
        go_wp2
        refine bodyPost_gen (fun W' => W'.cell? ⟨w.heap.size, 0, none⟩ = some (.slice none 0 0) ∧ W'.cell? ⟨w.heap.size, 1, none⟩ = some (.slice none 0 0) ∧ Wrote [w.heap.size] w1 W') ⟨((D0.set 0 _).set 1 _).cell 0, ((D0.set 0 _).set 1 _).cell 1, (Wrote.setCell (M := [w.heap.size]) w1 ⟨w.heap.size, 0, none⟩ (by simp) _).trans (Wrote.setCell _ ⟨w.heap.size, 1, none⟩ (by simp) _)⟩ ?_
        rintro W' ⟨e0, e1, hW⟩
        refine bodyPost_ret (v := .tuple #[.agg #[.slice none 0 0, .slice none 0 0], .int .i64 2]) (by simp [results, Tryz.results43, go_sem, e0, e1]) rfl ?_
        exact ⟨rfl, B0.trans (hW.below B0.size (by simp))⟩
      · skip
        go_enter Tryz.func43, Tryz.ntmps43
        go_wp2_with (
          refine wpList_insert_new _ rfl _ _ _ 166 rfl 41 164 .i64 Tryz.underlying166 Tryz.underlying41 _ _ _ rfl (by with_reducible assumption) _ _ rfl rfl (by simp [putE]) ?_
          intro w1 hb1 hg1
          replace B0 := B0.grown hg1 B0.size (fun k hk => by cases hk; omega)
          replace D0 := D0.keep (hg1.block _ (by omega) (by simp))
          replace Z0 := Nat.le_trans Z0 hg1.size
          try (have HL := run_lookup_at (P := Tryz.prog) 166 41 164 .i64 Tryz.underlying166 Tryz.underlying41 _ _ _ _ hb1 5 _ 1 rfl false)
          clear hg1)
        refine (CN.out _ B0).mono ?_
        rintro e w2 ⟨rfl, rfl⟩
        have y0 : w1.cell? ⟨w.heap.size, 0, none⟩ = some (.slice none 0 0) := D0.cell 0
        have y1 : w1.cell? ⟨w.heap.size, 1, none⟩ = some (.slice none 0 0) := D0.cell 1
        have z0 := D0.frozen 0
        have z1 := D0.frozen 1
        go_wp2
        refine bodyPost_gen (fun W' => W'.cell? ⟨w.heap.size, 0, none⟩ = some (.slice none 0 0) ∧ W'.cell? ⟨w.heap.size, 1, none⟩ = some (.slice none 0 0) ∧ Wrote [w.heap.size] w1 W') ⟨((D0.set 0 _).set 1 _).cell 0, ((D0.set 0 _).set 1 _).cell 1, (Wrote.setCell (M := [w.heap.size]) w1 ⟨w.heap.size, 0, none⟩ (by simp) _).trans (Wrote.setCell _ ⟨w.heap.size, 1, none⟩ (by simp) _)⟩ ?_
        rintro W' ⟨e0, e1, hW⟩
        refine bodyPost_ret (v := .tuple #[.agg #[.slice none 0 0, .slice none 0 0], .int .i64 2]) (by simp [results, Tryz.results43, go_sem, e0, e1]) rfl ?_
        exact ⟨rfl, B0.trans (hW.below B0.size (by simp))⟩
      · skip
        go_enter Tryz.func43, Tryz.ntmps43
        go_wp2_with (
          refine wpList_insert_new _ rfl _ _ _ 166 rfl 41 164 .i64 Tryz.underlying166 Tryz.underlying41 _ _ _ rfl (by with_reducible assumption) _ _ rfl rfl (by simp [putE]) ?_
          intro w1 hb1 hg1
          replace B0 := B0.grown hg1 B0.size (fun k hk => by cases hk; omega)
          replace D0 := D0.keep (hg1.block _ (by omega) (by simp))
          replace Z0 := Nat.le_trans Z0 hg1.size
          try (have HL := run_lookup_at (P := Tryz.prog) 166 41 164 .i64 Tryz.underlying166 Tryz.underlying41 _ _ _ _ hb1 7 _ 2 rfl false)
          clear hg1)
        refine (CN.out _ B0).mono ?_
        rintro e w2 ⟨rfl, rfl⟩
        have y0 : w1.cell? ⟨w.heap.size, 0, none⟩ = some (.slice none 0 0) := D0.cell 0
        have y1 : w1.cell? ⟨w.heap.size, 1, none⟩ = some (.slice none 0 0) := D0.cell 1
        have z0 := D0.frozen 0
        have z1 := D0.frozen 1
        go_wp2
        refine bodyPost_gen (fun W' => W'.cell? ⟨w.heap.size, 0, none⟩ = some (.slice none 0 0) ∧ W'.cell? ⟨w.heap.size, 1, none⟩ = some (.slice none 0 0) ∧ Wrote [w.heap.size] w1 W') ⟨((D0.set 0 _).set 1 _).cell 0, ((D0.set 0 _).set 1 _).cell 1, (Wrote.setCell (M := [w.heap.size]) w1 ⟨w.heap.size, 0, none⟩ (by simp) _).trans (Wrote.setCell _ ⟨w.heap.size, 1, none⟩ (by simp) _)⟩ ?_
        rintro W' ⟨e0, e1, hW⟩
        refine bodyPost_ret (v := .tuple #[.agg #[.slice none 0 0, .slice none 0 0], .int .i64 2]) (by simp [results, Tryz.results43, go_sem, e0, e1]) rfl ?_
        exact ⟨rfl, B0.trans (hW.below B0.size (by simp))⟩
  · have hnil := nilFunc_nil
    have e4 : k ≠ 4 := by omega
    have e5 : k ≠ 5 := by omega
    have e7 : k ≠ 7 := by omega
    go_enter Tryz.func43, Tryz.ntmps43
    go_wp2_with (
      refine wpList_insert_new _ rfl _ _ _ 166 rfl 41 164 .i64 Tryz.underlying166 Tryz.underlying41 _ _ _ rfl (by with_reducible assumption) _ _ rfl rfl (by simp [putE]) ?_
      intro w1 hb1 hg1
      replace B0 := B0.grown hg1 B0.size (fun k hk => by cases hk; omega)
      replace D0 := D0.keep (hg1.block _ (by omega) (by simp))
      replace Z0 := Nat.le_trans Z0 hg1.size
      try (have HL := run_lookup_not (P := Tryz.prog) 166 41 164 .i64 Tryz.underlying166 Tryz.underlying41 _ _ _ _ .nilFunc (by kernel_rfl) hb1 k (fun x hx => keys3 hx e4 e5 e7) false)
      clear hg1)
    refine (CN.out _ B0).mono ?_
    rintro e w2 ⟨rfl, rfl⟩
    have y0 : w1.cell? ⟨w.heap.size, 0, none⟩ = some (.slice none 0 0) := D0.cell 0
    have y1 : w1.cell? ⟨w.heap.size, 1, none⟩ = some (.slice none 0 0) := D0.cell 1
    have z0 := D0.frozen 0
    have z1 := D0.frozen 1
    go_wp2
    refine bodyPost_gen (fun W' => W'.cell? ⟨w.heap.size, 0, none⟩ = some (.slice none 0 0) ∧ W'.cell? ⟨w.heap.size, 1, none⟩ = some (.slice none 0 0) ∧ Wrote [w.heap.size] w1 W') ⟨((D0.set 0 _).set 1 _).cell 0, ((D0.set 0 _).set 1 _).cell 1, (Wrote.setCell (M := [w.heap.size]) w1 ⟨w.heap.size, 0, none⟩ (by simp) _).trans (Wrote.setCell _ ⟨w.heap.size, 1, none⟩ (by simp) _)⟩ ?_
    rintro W' ⟨e0, e1, hW⟩
    refine bodyPost_ret (v := .tuple #[.agg #[.slice none 0 0, .slice none 0 0], .int .i64 2]) (by simp [results, Tryz.results43, go_sem, e0, e1]) rfl ?_
    exact ⟨rfl, B0.trans (hW.below B0.size (by simp))⟩
end Go.Proofs.YtoinabapaeebfaaGreatDoor
namespace Go.Proofs.YtoinabapaeebfaaGreatDoor
open Go.RowKit Go.Shelf

def RowV.cl (r : RowV) : List Value := r.vals.toList
theorem eRow : ElemT Tryz.prog 34 33 (.agg (RowV.vals ⟨0, [], 0, 0, [], [], 0, false, 0⟩)) 9 96 := ⟨Tryz.underlying34, by kernel_rfl, by kernel_rfl⟩
theorem RowV.cllen (r : RowV) : r.cl.length = 9 := rfl
theorem RowV.one (r : RowV) : ∀ u ∈ r.cl, u.oneCell' = true := by simp [RowV.cl, RowV.vals, Value.oneCell']
/-- Rows in a row of one's own. -/
def RowsAt (w : World) (base : Nat) (v : Value) (l : List RowV) : Prop := w.ownsRow base 33 9 v l.length (l.flatMap RowV.cl)
theorem Blk.range {w : World} {b : Nat} {cs : Array Value} {T : TypeId} (h : Blk w b cs T) : w.rangeAt b 0 cs.toList := fun j v hj => by
  rw [Nat.zero_add, h.cell j]
  simpa using hj

set_option maxRecDepth 100000 in
set_option maxHeartbeats 1000000 in
theorem out_Rows {w : World} {B : Nat} {L : Lay} {s : OS} {ps : List PackV} {cs : List ChangeV} (h : OB w B L s ps cs) :
    Calls Tryz.prog 16 #[.pointer (some ⟨L.p, 0, none⟩)] w fun e w' => ∃ v, e = .returned v ∧ RowsAt w' w.heap.size v s.l ∧ Below w.heap.size w w' := by
  have CN := hid (out_none h)
  obtain ⟨al, cl, hvl, -⟩ := own_cell h.rows
  have k6 : w.cell? ⟨L.p, 6, none⟩ = some (.slice al s.l.length cl) := (h.box.cell 6).trans (by simp [boxCells, hvl])
  have hroom : s.l.length ≤ 1000 := by have := h.ok.room; omega
  have H := hid h
  go_enter Tryz.func16, Tryz.ntmps16
  go_wp2_with (go_at_call 58; refine CN.out.mono ?_; rintro e w1 ⟨rfl, rfl⟩)
  go_loopw [3, 13] (fun v' i wr => ∃ (k : Nat) (v : Value), v = v' ∧ i = .int .i64 k ∧ k ≤ s.l.length ∧ Hid (wr.ownsRow w.heap.size 33 9 v k ((s.l.take k).flatMap RowV.cl)) ∧ Hid (Below w.heap.size w wr)) (fun _ i _ => s.l.length - (intOf i).toNat)
  case atStart => exact ⟨0, _, rfl, rfl, Nat.zero_le _, hid (World.ownsRow_nil _ _ _ _), hid (Below.refl _ _)⟩
  case round =>
    obtain ⟨k, v, rfl, rfl, hk, hown, hbr⟩ := hrel
    rcases Nat.lt_or_ge k s.l.length with hlt | hge
    · have dk : decide ((k : Int) < (s.l.length : Int)) = true := decide_eq_true (by omega)
      obtain ⟨r, hr⟩ : ∃ r, s.l[k]? = some r := ⟨_, List.getElem?_eq_getElem hlt⟩
      obtain ⟨b, g, cap, hb, A⟩ := (H.out.below hbr.out).atRow k r hr
      have hvA := A.vl
      rw [hvl] at hvA
      cases hvA
      have ka := A.arr
      have kl := A.le
      have hrow := hid A.row
      have hnk := hid (show (s.l.take (k + 1)).flatMap RowV.cl = (s.l.take k).flatMap RowV.cl ++ r.cl by rw [List.take_add_one, hr]; simp)
      clear A hr
      go_wp2_with (first
        | (refine wpList_load_mid rfl 33 _ rfl b 0 rfl r.cl _ hrow.out.range Tryz.underlying33 rfl (by kernel_rfl) ?_)
        | (refine wpList_plain rfl fun _ hK => wp_slice_one _ rfl eRow (by decide) (by decide) (.agg r.cl.toArray) rfl rfl (hK _ _ ?_))
        | (at_builtin; (refine append_grp rfl _ _ rfl eRow (by decide) w.heap.size v k _ rfl (hown.out.alloc _) wr.heap.size r.cl 33 rfl (Blk.new _ _ _) rfl r.one (by omega) (by omega) (by have := hbr.out.size; simp; omega) ?_); intro v' w1 r1 g1 n1))
      have r1 := hid r1
      have g1 := hid g1
      go_roundw
      case rel =>
        exact ⟨k + 1, _, rfl, by go_num, by omega, by rw [hnk.out]; exact r1, hid ((hbr.out.alloc hbr.out.size _).grown g1.out (by have := hbr.out.size; simp; omega) (fun x hx => (hown.out.lt x hx).1))⟩
      case measure => simp [intOf]; omega
    · obtain rfl : k = s.l.length := by omega
      have dk : decide ((s.l.length : Int) < (s.l.length : Int)) = false := by simp
      rw [List.take_length] at hown
      go_wp2
      go_ret
      exact ⟨_, rfl, hown.out, hbr.out⟩
end Go.Proofs.YtoinabapaeebfaaGreatDoor
namespace Go.Proofs.YtoinabapaeebfaaGreatDoor
open Go.RowKit Go.Shelf

section
variable {P : Program} {w : World} {b : Nat} {cs : Array Value} {T : TypeId}
theorem run_load_blk (h : Blk w b cs T) (ty : TypeId) {d : TypeDesc} (hu : P.underlying ty = some d) (hd : d.isRow = true) (hi : (P.info? ty).map (·.size) = some cs.size) : (Instr.loadAt ty (.pointer (some ⟨b, 0, none⟩))).run P w = .ok (.agg cs) w := by
  have := run_loadAt_mid (P := P) w b 0 ty cs.toList d h.range hu hd (by simpa using hi)
  simpa using this
theorem run_loadVar_blk (h : Blk w b cs T) (ty : TypeId) {d : TypeDesc} (hu : P.underlying ty = some d) (hd : d.isRow = true) (hi : (P.info? ty).map (·.size) = some cs.size) : (loadVar ty ⟨b, 0, none⟩).run P w = .ok (.agg cs) w := by
  have := run_loadVar_mid (P := P) w b 0 ty cs.toList d h.range hu hd (by simpa using hi)
  simpa using this
theorem wpList_load_blk {ops : Array Oper} {rest : List Oper} {op : Oper} {a : Act} {Q : Exit → Act → World → Prop} (hgd : op.guard = none) (ty : TypeId) (x : Operand) (ho : op.op = .load ty x)
    (b : Nat) (cs : Array Value) (hx : a.eval x = .pointer (some ⟨b, 0, none⟩)) (hb : Blk w b cs T) {d : TypeDesc} (hu : P.underlying ty = some d) (hd : d.isRow = true) (hi : (P.info? ty).map (·.size) = some cs.size)
    (h : wpList P ops Q rest (a.put op.dst (.agg cs)) w) : wpList P ops Q (op :: rest) a w :=
  wpList_load_mid hgd ty x ho b 0 hx cs.toList d hb.range hu hd (by simpa using hi) (by simpa using h)
theorem wpList_store_blk {ops : Array Oper} {rest : List Oper} {op : Oper} {a : Act} {Q : Exit → Act → World → Prop} (hgd : op.guard = none) (ty T : TypeId) (x y : Operand) (ho : op.op = .store ty x y) (n : Nat) (hs : ∀ w, (sizeOf ty).run P w = .ok n w)
    (b : Nat) (cur cs : Array Value) (hx : a.eval x = .pointer (some ⟨b, 0, none⟩)) (hy : a.eval y = .agg cs) (hb : Blk w b cur T) (h1 : cs.size = n) (h2 : cur.size = n) (ho1 : ∀ v ∈ cs.toList, v.oneCell' = true)
    (h : ∀ w', Blk w' b cs T → Wrote [b] w w' → wpList P ops Q rest (a.put op.dst undef) w') : wpList P ops Q (op :: rest) a w :=
  wpList_plain hgd fun _ hK => wp_store_whole ty T x y ho n hs b cur cs hx hy hb h1 h2 ho1 fun w' hb' hw' => hK _ _ (h w' hb' hw')
theorem wp_append_grp {o : Oper} {a : Act} {K : Act → World → Prop} {Q : Exit → Act → World → Prop} {t e : TypeId} {z : Value} {size bytes : Nat} (s x : Operand)
    (ho : o.op = .call { callee := .builtin .append, args := #[s, x], argTypes := #[t, t] }) (E : ElemT P t e z size bytes) (hsz : 0 < size)
    (base : Nat) (v : Value) (n : Nat) (xs : List Value) (hs : a.eval s = v) (hown : w.ownsRow base e size v n xs) (g : Nat) (news : List Value) (T : TypeId) (hx : a.eval x = .slice (some ⟨g, 0, none⟩) 1 1) (hg : Blk w g news.toArray T) (hl : news.length = size) (h1 : ∀ u ∈ news, u.oneCell' = true)
    (h63 : n < 100000000) (hbytes : (n + 1) * bytes ≤ 140737488355328) (hbase : base ≤ w.heap.size)
    (h : ∀ v' w', w'.ownsRow base e size v' (n + 1) (xs ++ news) → w.grownBy w' v.ownBlock → (∀ k, v'.ownBlock = some k → v.ownBlock = some k ∨ w.heap.size ≤ k) → K (a.put o.dst v') w') : o.wp P a w K Q := by
  obtain ⟨v', w', hr, h2, h3, h4⟩ := run_append2 (P := P) (w := w) o.type E hsz base v n xs hown ⟨g, 0, none⟩ news hl (fun j u hj => by
    have := hg.cell j
    simp only [List.getElem?_toArray] at this
    rw [hj] at this
    by_cases h0 : j = 0
    · subst h0; simpa [Addr.add] using this
    · simpa [Addr.add, h0] using this) h1 h63 hbytes hbase
  unfold Oper.wp execOp
  simp only [ho, resolve, invoke, builtin, Sem.run_bind, Sem.run_pure, Result.andThen_ok, List.map_toArray, List.map_cons, List.map_nil, hs, hx, hr]
  exact h v' w' h2 h3 h4
theorem results_cc {fn : Func} {a b : Tmp} {t u : TypeId} (h : fn.results = #[.cell a t, .cell b u]) {tmps : Array Value} {p q : Addr} (hp : tmps.getD a undef = .pointer (some p)) (hq : tmps.getD b undef = .pointer (some q)) {v x : Value} (hl : (loadVar t p).run P w = .ok v w) (hu : (loadVar u q).run P w = .ok x w) : (results fn tmps).run P w = .ok (.tuple #[v, x]) w := by
  rw [Array.getD_eq_getD_getElem?] at hp hq
  simp [results, h, hp, hq, asAddr, hl, hu]
theorem results_cct {fn : Func} {a b c : Tmp} {t u : TypeId} (h : fn.results = #[.cell a t, .cell b u, .tmp c]) {tmps : Array Value} {p q : Addr} (hp : tmps.getD a undef = .pointer (some p)) (hq : tmps.getD b undef = .pointer (some q)) {v x y : Value} (hl : (loadVar t p).run P w = .ok v w) (hu : (loadVar u q).run P w = .ok x w) (hy : tmps.getD c undef = y) : (results fn tmps).run P w = .ok (.tuple #[v, x, y]) w := by
  rw [Array.getD_eq_getD_getElem?] at hp hq hy
  simp [results, h, hp, hq, hy, asAddr, hl, hu]
theorem results_ctt {fn : Func} {a b c : Tmp} {t : TypeId} (h : fn.results = #[.cell a t, .tmp b, .tmp c]) {tmps : Array Value} {p : Addr} (hp : tmps.getD a undef = .pointer (some p)) {v x y : Value} (hl : (loadVar t p).run P w = .ok v w) (hx : tmps.getD b undef = x) (hy : tmps.getD c undef = y) : (results fn tmps).run P w = .ok (.tuple #[v, x, y]) w := by
  rw [Array.getD_eq_getD_getElem?] at hp hx hy
  simp [results, h, hp, hx, hy, asAddr, hl]
end
theorem Blk.keepW {w w' : World} {b : Nat} {cs : Array Value} {T : TypeId} (h : Blk w b cs T) {M : List Nat} (hw : Wrote M w w') (hn : b ∉ M) : Blk w' b cs T := h.wrote hw hn
theorem below_wrote {a w w' : World} (h : Below a.heap.size a w) {M : List Nat} (hw : Wrote M w w') (hM : ∀ x ∈ M, a.heap.size ≤ x) : Below a.heap.size a w' :=
  h.trans (hw.below h.size hM)
section
variable {P : Program} {ops : Array Oper} {KQ : Act → World → Prop} {facts : List Fact} {taken : List Nat} {a : Act} {w : World}
/-- 'append(a, b...)' that touches no memory. -/
theorem appQ (i : Nat) {oi : Oper} (hi : ops[i]? = some oi) (hB : takeB ops (facts.map (·.1)) taken i = true) (hw : Region.wanted oi (yielded ops a.tmps) = true) {s x : Operand} {tys : Array TypeId}
    (hop : oi.op = .call { callee := .builtin .append, args := #[s, x], argTypes := tys }) {u y : Value} (hs : a.eval s = u) (hx : a.eval x = y) (v : Value) (hr : ∀ w', (Builtin.append_ tys oi.type #[u, y]).run P w' = .ok v w')
    (h : atR P ops KQ facts (i :: taken) (a.put oi.dst v) w) : atR P ops KQ facts taken a w := by
  refine readyR i hi hB v (.inl ⟨hw, fun w' hu => ?_⟩) h
  simp only [execOp, hop, resolve, invoke, builtin, Sem.run_bind, Sem.run_pure, Result.andThen_ok, List.map_toArray, List.map_cons, List.map_nil, hs, hx, hr]
end
end Go.Proofs.YtoinabapaeebfaaGreatDoor
