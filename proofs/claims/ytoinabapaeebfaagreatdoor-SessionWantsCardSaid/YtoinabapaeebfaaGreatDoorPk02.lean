/- Runes as bytes: plain lists and numbers, no program in sight. · Contracts of package utf: may, classes, long, raw. -/
import Derived.Test.YtoinabapaeebfaaGreatDoorPk01
import Derived.Test.YtoinabapaeebfaaGreatDoorProg
set_option linter.unusedSimpArgs false
set_option linter.unusedVariables false
namespace Go.Proofs.YtoinabapaeebfaaGreatDoor
open Go.RowKit Go.Shelf

/-- May a rune be? -/
def mayR (r : Int) : Bool := decide (0 ≤ r) && decide (r ≤ 1114111) && (decide (r < 55296) || decide (57343 < r))
theorem mayR_iff (r : Int) : mayR r = true ↔ 0 ≤ r ∧ r ≤ 1114111 ∧ (r < 55296 ∨ 57343 < r) := by simp [mayR, and_assoc]

def b8 (n : Nat) : UInt8 := UInt8.ofNat n
theorem b8_nat (n : Nat) (h : n < 256) : (b8 n).toNat = n := by unfold b8; simp; omega

/-- The bytes of a rune. -/
def encR (r : Nat) : List UInt8 :=
  if r < 128 then [b8 r]
  else if r < 2048 then [b8 (192 + r / 64), b8 (128 + r % 64)]
  else if r < 65536 then [b8 (224 + r / 4096), b8 (128 + r / 64 % 64), b8 (128 + r % 64)]
  else [b8 (240 + r / 262144), b8 (128 + r / 4096 % 64), b8 (128 + r / 64 % 64), b8 (128 + r % 64)]
def lenR (r : Nat) : Nat := if r < 128 then 1 else if r < 2048 then 2 else if r < 65536 then 3 else 4
theorem encR_len (r : Nat) : (encR r).length = lenR r := by
  unfold encR lenR
  repeat' split
  all_goals simp
theorem lenR_bd (r : Nat) : 1 ≤ lenR r ∧ lenR r ≤ 4 := by unfold lenR; (repeat' split) <;> omega

/-- Byte i of a text, as a number. -/
def at8 (s : List UInt8) (i : Nat) : Nat := (s[i]?.getD 0).toNat
theorem at8_lt (s : List UInt8) (i : Nat) : at8 s i < 256 := (s[i]?.getD 0).toNat_lt
/-- The number that the first n bytes of a text tell. -/
def valR (n : Nat) (s : List UInt8) : Nat :=
  match n with
  | 1 => at8 s 0
  | 2 => at8 s 0 % 64 * 64 + at8 s 1 % 64
  | 3 => (at8 s 0 % 32 * 64 + at8 s 1 % 64) * 64 + at8 s 2 % 64
  | 4 => ((at8 s 0 % 16 * 64 + at8 s 1 % 64) * 64 + at8 s 2 % 64) * 64 + at8 s 3 % 64
  | _ => 0
/-- Do the first n bytes tell a rune that may be said? -/
def okR (n : Nat) (s : List UInt8) : Bool := decide (n ≤ s.length) && decide (valR n s ≠ 0) && mayR (valR n s) && (encR (valR n s) == s.take n)
/-- The first rune of a text, and how many bytes it has; 0, 0: there is none. -/
def firstF (s : List UInt8) : Nat × Nat :=
  if okR 1 s then (valR 1 s, 1) else if okR 2 s then (valR 2 s, 2) else if okR 3 s then (valR 3 s, 3) else if okR 4 s then (valR 4 s, 4) else (0, 0)

theorem valR_lt (n : Nat) (s : List UInt8) : valR n s < 4194304 := by
  have h0 := at8_lt s 0
  unfold valR
  split <;> omega

theorem valR_enc (r : Nat) (h : r ≤ 1114111) (t : List UInt8) : valR (lenR r) (encR r ++ t) = r := by
  unfold encR lenR
  split
  · simp [valR, at8, b8_nat r (by omega)]
  · split
    · simp [valR, at8, b8_nat (192 + r / 64) (by omega), b8_nat (128 + r % 64) (by omega)]; omega
    · split
      · simp [valR, at8, b8_nat (224 + r / 4096) (by omega), b8_nat (128 + r / 64 % 64) (by omega), b8_nat (128 + r % 64) (by omega)]; omega
      · simp [valR, at8, b8_nat (240 + r / 262144) (by omega), b8_nat (128 + r / 4096 % 64) (by omega), b8_nat (128 + r / 64 % 64) (by omega), b8_nat (128 + r % 64) (by omega)]; omega

theorem okR_iff (n : Nat) (s : List UInt8) : okR n s = true ↔ n ≤ s.length ∧ valR n s ≠ 0 ∧ mayR (valR n s) = true ∧ encR (valR n s) = s.take n := by
  simp [okR, and_assoc]
theorem okR_len {n : Nat} {s : List UInt8} (h : okR n s = true) : lenR (valR n s) = n := by
  obtain ⟨h1, _, _, h4⟩ := (okR_iff n s).1 h
  rw [← encR_len, h4, List.length_take]; omega

/-- A text that begins with a rune's bytes has just that rune. -/
theorem firstF_enc (r : Nat) (h0 : r ≠ 0) (hm : mayR r = true) (t : List UInt8) : firstF (encR r ++ t) = (r, lenR r) := by
  have hr : r ≤ 1114111 := by have := (mayR_iff r).1 hm; omega
  have hok : okR (lenR r) (encR r ++ t) = true := by
    rw [okR_iff, valR_enc r hr t]
    refine ⟨by simp [encR_len], h0, hm, ?_⟩
    rw [← encR_len, List.take_left]
  have hno : ∀ n, n < lenR r → okR n (encR r ++ t) = false := by
    intro n hn
    cases hk : okR n (encR r ++ t) with
    | false => rfl
    | true =>
      exfalso
      obtain ⟨h1, h2, h3, h4⟩ := (okR_iff n _).1 hk
      have hl := okR_len hk
      have hv : valR n (encR r ++ t) ≤ 1114111 := by have := (mayR_iff _).1 h3; omega
      generalize valR n (encR r ++ t) = v at *
      have hb := lenR_bd r
      -- the first bytes part
      have e0 : (encR v)[0]? = (encR r)[0]? := by
        rw [h4]
        have : 0 < n := by have := (lenR_bd v).1; omega
        rw [List.getElem?_take_of_lt this, List.getElem?_append_left (by rw [encR_len]; omega)]
      have key : ∀ x : Nat, x ≤ 1114111 → ∃ y : Nat, (encR x)[0]? = some (b8 y) ∧ y < 256 ∧ (lenR x = 1 → y < 128) ∧ (lenR x = 2 → 192 ≤ y ∧ y < 224) ∧ (lenR x = 3 → 224 ≤ y ∧ y < 240) ∧ (lenR x = 4 → 240 ≤ y) := by
        intro x hx
        unfold encR lenR
        split
        · exact ⟨x, by simp, by omega, by omega, by omega, by omega, by omega⟩
        · split
          · exact ⟨192 + x / 64, by simp, by omega, by omega, by omega, by omega, by omega⟩
          · split
            · exact ⟨224 + x / 4096, by simp, by omega, by omega, by omega, by omega, by omega⟩
            · exact ⟨240 + x / 262144, by simp, by omega, by omega, by omega, by omega, by omega⟩
      obtain ⟨y1, a1, a2, a3, a4, a5, a6⟩ := key v hv
      obtain ⟨y2, c1, c2, c3, c4, c5, c6⟩ := key r hr
      rw [a1, c1] at e0
      have e1 : y1 = y2 := by
        have := congrArg UInt8.toNat (Option.some.inj e0)
        rwa [b8_nat y1 a2, b8_nat y2 c2] at this
      have hb2 := lenR_bd v
      omega
  have hb := lenR_bd r
  have hv := valR_enc r hr t
  unfold firstF
  rcases (show lenR r = 1 ∨ lenR r = 2 ∨ lenR r = 3 ∨ lenR r = 4 by omega) with h | h | h | h
  · rw [h] at hok hno hv ⊢
    simp only [hok, hv, if_true]
  · rw [h] at hok hno hv ⊢
    simp only [hok, hv, hno 1 (by omega), if_true, Bool.false_eq_true, if_false]
  · rw [h] at hok hno hv ⊢
    simp only [hok, hv, hno 1 (by omega), hno 2 (by omega), if_true, Bool.false_eq_true, if_false]
  · rw [h] at hok hno hv ⊢
    simp only [hok, hv, hno 1 (by omega), hno 2 (by omega), hno 3 (by omega), if_true, Bool.false_eq_true, if_false]

/-- What firstF finds is a rune's bytes, right there. -/
theorem firstF_spec (s : List UInt8) : firstF s = (0, 0) ∨ (∃ r n, firstF s = (r, n) ∧ r ≠ 0 ∧ mayR r = true ∧ n = lenR r ∧ n ≤ s.length ∧ encR r = s.take n) := by
  have key : ∀ n, okR n s = true → ∃ r m, ((valR n s, n) : Nat × Nat) = (r, m) ∧ r ≠ 0 ∧ mayR r = true ∧ m = lenR r ∧ m ≤ s.length ∧ encR r = s.take m := fun n h => by
    obtain ⟨h1, h2, h3, h4⟩ := (okR_iff n s).1 h
    exact ⟨_, _, rfl, h2, h3, (okR_len h).symm, h1, h4⟩
  unfold firstF
  split
  · exact .inr (key 1 (by assumption))
  · split
    · exact .inr (key 2 (by assumption))
    · split
      · exact .inr (key 3 (by assumption))
      · split
        · exact .inr (key 4 (by assumption))
        · exact .inl rfl

/-- The runes of a text from byte number p on, and where it is wrong. -/
def runesF : Nat → List UInt8 → Nat → List Nat × Option Nat
  | 0, _, _ => ([], none)
  | f + 1, s, p =>
    if s = [] then ([], none)
    else if (firstF s).2 = 0 ∨ 65535 < p + (firstF s).2 then ([], some p)
    else ((firstF s).1 :: (runesF f (s.drop (firstF s).2) (p + (firstF s).2)).1, (runesF f (s.drop (firstF s).2) (p + (firstF s).2)).2)
def runesL (s : List UInt8) (p : Nat) : List Nat × Option Nat := runesF s.length s p
theorem firstF_le (s : List UInt8) : (firstF s).2 ≤ s.length := by
  rcases firstF_spec s with h | ⟨r, n, h, _, _, _, h5, _⟩ <;> rw [h] <;> simp <;> omega
theorem runesF_fuel (f : Nat) (s : List UInt8) (p : Nat) (h : s.length ≤ f) : runesF f s p = runesF s.length s p := by
  induction f using Nat.strongRecOn generalizing s p with
  | _ f ih =>
    cases f with
    | zero =>
      have : s.length = 0 := by omega
      rw [this]
    | succ f =>
      by_cases hs : s = []
      · subst hs; simp [runesF]
      · have hl : 0 < s.length := List.length_pos_iff.2 hs
        obtain ⟨k, hk⟩ : ∃ k, s.length = k + 1 := ⟨s.length - 1, by omega⟩
        rw [hk]
        simp only [runesF, if_neg hs]
        split
        · rfl
        · rename_i hbad
          have h1 := firstF_le s
          have h2 : 0 < (firstF s).2 := by omega
          have e1 := ih f (by omega) (s.drop (firstF s).2) (p + (firstF s).2) (by simp; omega)
          have e2 := ih k (by omega) (s.drop (firstF s).2) (p + (firstF s).2) (by simp; omega)
          rw [e1, e2]
/-- Is there no rune, or one too far? -/
def badR (s : List UInt8) (p : Nat) : Bool := decide ((firstF s).2 = 0) || decide (65535 < p + (firstF s).2)
theorem runesL_nil (p : Nat) : runesL [] p = ([], none) := rfl
theorem runesL_bad (s : List UInt8) (p : Nat) (hs : s ≠ []) (h : badR s p = true) : runesL s p = ([], some p) := by
  obtain ⟨k, hk⟩ : ∃ k, s.length = k + 1 := ⟨s.length - 1, by have := List.length_pos_iff.2 hs; omega⟩
  unfold runesL
  rw [hk]
  simp only [runesF, if_neg hs]
  rw [if_pos (by simpa [badR] using h)]
theorem runesL_good (s : List UInt8) (p : Nat) (hs : s ≠ []) (h : badR s p = false) :
    runesL s p = ((firstF s).1 :: (runesL (s.drop (firstF s).2) (p + (firstF s).2)).1, (runesL (s.drop (firstF s).2) (p + (firstF s).2)).2) := by
  obtain ⟨k, hk⟩ : ∃ k, s.length = k + 1 := ⟨s.length - 1, by have := List.length_pos_iff.2 hs; omega⟩
  have hb : ¬ ((firstF s).2 = 0 ∨ 65535 < p + (firstF s).2) := by
    intro hb
    have : badR s p = true := by simpa [badR] using hb
    rw [h] at this; cases this
  have e := runesF_fuel k (s.drop (firstF s).2) (p + (firstF s).2) (by simp; omega)
  unfold runesL
  rw [hk]
  simp only [runesF, if_neg hs, if_neg hb, e]

/-- After pre, a list of places and runes, s' is left from byte p' on. -/
def ChainU : List UInt8 → Nat → List (Nat × Nat) → List UInt8 → Nat → Prop
  | s, p, [], s', p' => s = s' ∧ p = p'
  | s, p, x :: pre, s', p' => s ≠ [] ∧ badR s p = false ∧ x = (p, (firstF s).1) ∧ ChainU (s.drop (firstF s).2) (p + (firstF s).2) pre s' p'
theorem ChainU.snoc {s : List UInt8} {p : Nat} {pre : List (Nat × Nat)} {s' : List UInt8} {p' : Nat} (h : ChainU s p pre s' p') (hs : s' ≠ []) (hb : badR s' p' = false) :
    ChainU s p (pre ++ [(p', (firstF s').1)]) (s'.drop (firstF s').2) (p' + (firstF s').2) := by
  induction pre generalizing s p with
  | nil => obtain ⟨rfl, rfl⟩ := h; exact ⟨hs, hb, rfl, rfl, rfl⟩
  | cons x pre ih => exact ⟨h.1, h.2.1, h.2.2.1, ih h.2.2.2⟩
theorem ChainU.runes {s : List UInt8} {p : Nat} {pre : List (Nat × Nat)} {s' : List UInt8} {p' : Nat} (h : ChainU s p pre s' p') : runesL s p = (pre.map (·.2) ++ (runesL s' p').1, (runesL s' p').2) := by
  induction pre generalizing s p with
  | nil => obtain ⟨rfl, rfl⟩ := h; simp
  | cons x pre ih =>
    rw [runesL_good s p h.1 h.2.1, ih h.2.2.2, h.2.2.1]
    simp
theorem ChainU.drop {s : List UInt8} {p : Nat} {pre : List (Nat × Nat)} {s' : List UInt8} {p' : Nat} (h : ChainU s p pre s' p') : p ≤ p' ∧ p' - p ≤ s.length ∧ s' = s.drop (p' - p) := by
  induction pre generalizing s p with
  | nil => obtain ⟨rfl, rfl⟩ := h; simp
  | cons x pre ih =>
    obtain ⟨h1, h2, h3⟩ := ih h.2.2.2
    have h4 := firstF_le s
    simp only [List.length_drop, List.drop_drop] at h2 h3
    refine ⟨by omega, by omega, ?_⟩
    rw [h3]
    congr 1
    omega
end Go.Proofs.YtoinabapaeebfaaGreatDoor
namespace Go.Proofs.YtoinabapaeebfaaGreatDoor
open Go.RowKit Go.Shelf

set_option maxRecDepth 100000 in
set_option maxHeartbeats 400000 in
theorem utf_may (r : Int) (w : World) :
    Calls Tryz.prog 252 #[.int .i32 r] w fun e w' => e = .returned (.bool (mayR r)) ∧ w = w' := by
  unfold mayR
  by_cases h1 : 0 ≤ r
  · by_cases h2 : r ≤ 1114111
    · by_cases h3 : r < 55296
      · go_enter Tryz.func252, Tryz.ntmps252
        go_wp2
        go_ret
        (simp [h1, h2, h3]; try (intros; omega))
      · go_enter Tryz.func252, Tryz.ntmps252
        go_wp2
        go_ret
        (simp [h1, h2, h3]; try (intros; omega))
    · go_enter Tryz.func252, Tryz.ntmps252
      go_wp2
      go_ret
      (simp [h1, h2]; try (intros; omega))
  · go_enter Tryz.func252, Tryz.ntmps252
    go_wp2
    go_ret
    (simp [h1]; try (intros; omega))

set_option maxRecDepth 100000 in
set_option maxHeartbeats 400000 in
theorem utf_classes (w : World) :
    Calls Tryz.prog 251 #[] w fun e w' => e = .returned (.agg #[.int .i32 0, .int .u8 0, .int .i32 128, .int .u8 0, .int .i32 2048, .int .u8 192, .int .i32 65536, .int .u8 224, .int .i32 1114112, .int .u8 240]) ∧ w.alloc (.cells #[.int .i32 0, .int .u8 0, .int .i32 128, .int .u8 0, .int .i32 2048, .int .u8 192, .int .i32 65536, .int .u8 224, .int .i32 1114112, .int .u8 240] 325) = w' := by
  go_enter Tryz.func251, Tryz.ntmps251
  go_wp2
  exact bodyPost_ret (v := .agg #[.int .i32 0, .int .u8 0, .int .i32 128, .int .u8 0, .int .i32 2048, .int .u8 192, .int .i32 65536, .int .u8 224, .int .i32 1114112, .int .u8 240]) (by simp [results, Tryz.results251, go_sem]) rfl ⟨rfl, rfl⟩

def belows : List Int := [0, 128, 2048, 65536, 1114112]

set_option maxRecDepth 100000 in
set_option maxHeartbeats 1000000 in
theorem indexFunc_class (g : Nat) (lb : Array Value) (p : Int → Bool) (B : Nat) (w : World) (hB : w.heap[B]? = some (.cells #[.int .i32 0, .int .u8 0, .int .i32 128, .int .u8 0, .int .i32 2048, .int .u8 192, .int .i32 65536, .int .u8 224, .int .i32 1114112, .int .u8 240] 325 (0, 0)))
   (eg : ∀ args w, (callFunc g args).run Tryz.prog w = .ok (.enter g args) w) (hg : ∀ (b l : Int) (W : World), Below w.heap.size w W → Calls Tryz.prog g (#[.agg #[.int .i32 b, .int .u8 l]] ++ lb) W fun e w' => e = .returned (.bool (p b)) ∧ Below W.heap.size W w') :
    Calls Tryz.prog 260 #[.slice (some ⟨B, 0, none⟩) 5 5, .func (.func g) #[] lb] w fun e w' => e = .returned (.int .i64 (idxOf p belows)) ∧ Below w.heap.size w w' := by
  have HG := hid hg; clear hg
  have HB := hid hB; clear hB
  go_enter Tryz.func260, Tryz.ntmps260
  go_wp2
  go_loopw [4,5,8] (fun _ _ i wr => ∃ k : Nat, k ≤ 5 ∧ i = .int .i64 k ∧ Hid (∀ j, j < k → p (belows[j]?.getD 0) = false) ∧ Below w.heap.size w wr) (fun _ _ i _ => 5 - (intOf i).toNat)
  case atStart => exact ⟨0, Nat.zero_le _, rfl, fun j hj => absurd hj (Nat.not_lt_zero _), Below.refl _ _⟩
  case round =>
    obtain ⟨k, hk, rfl, hj, hbel⟩ := hrel
    have hBr : wr.heap[B]? = some (.cells #[.int .i32 0, .int .u8 0, .int .i32 128, .int .u8 0, .int .i32 2048, .int .u8 192, .int .i32 65536, .int .u8 224, .int .i32 1114112, .int .u8 240] 325 (0, 0)) := (hbel.block B (Array.getElem?_eq_some_iff.1 HB.out).1).trans HB.out
    have step : ∀ j, wr.cell? ⟨B, j, none⟩ = (#[.int .i32 0, .int .u8 0, .int .i32 128, .int .u8 0, .int .i32 2048, .int .u8 192, .int .i32 65536, .int .u8 224, .int .i32 1114112, .int .u8 240] : Array Value)[j]? := fun j => by simp [World.cell?, hBr]
    have c0 := step 0; have c1 := step 1; have c2 := step 2; have c3 := step 3; have c4 := step 4; have c5 := step 5; have c6 := step 6; have c7 := step 7; have c8 := step 8; have c9 := step 9
    clear step hBr
    simp only [List.getElem?_toArray, List.getElem?_cons_zero, List.getElem?_cons_succ] at c0 c1 c2 c3 c4 c5 c6 c7 c8 c9
    rcases (show k = 0 ∨ k = 1 ∨ k = 2 ∨ k = 3 ∨ k = 4 ∨ k = 5 by omega) with rfl | rfl | rfl | rfl | rfl | rfl
    · go_wp2_with fail
      refine (HG.out _ _ _ hbel).mono ?_
      rintro e w1 ⟨rfl, hb1⟩
      have hb2 := hbel.trans (hb1.mono hbel.size)
      cases hp : p 0
      · go_wp2
        go_roundw
        case rel =>
          refine ⟨1, by omega, by go_num, fun j hj' => ?_, hb2⟩
          by_cases he : j = 0
          · subst he; exact hp
          · exact hj.out j (by omega)
        case measure => simp [intOf]
      · go_wp2
        go_ret
        refine ⟨?_, hb2⟩
        have hi := idxOf_at p belows 0 (by decide) (fun j hj' => by have h1 := hj.out j hj'; rwa [List.getElem?_eq_getElem (by have : belows.length = 5 := rfl; omega)] at h1) hp
        rw [hi]
        rfl
    · go_wp2_with fail
      refine (HG.out _ _ _ hbel).mono ?_
      rintro e w1 ⟨rfl, hb1⟩
      have hb2 := hbel.trans (hb1.mono hbel.size)
      cases hp : p 128
      · go_wp2
        go_roundw
        case rel =>
          refine ⟨2, by omega, by go_num, fun j hj' => ?_, hb2⟩
          by_cases he : j = 1
          · subst he; exact hp
          · exact hj.out j (by omega)
        case measure => simp [intOf]
      · go_wp2
        go_ret
        refine ⟨?_, hb2⟩
        have hi := idxOf_at p belows 1 (by decide) (fun j hj' => by have h1 := hj.out j hj'; rwa [List.getElem?_eq_getElem (by have : belows.length = 5 := rfl; omega)] at h1) hp
        rw [hi]
        rfl
    · go_wp2_with fail
      refine (HG.out _ _ _ hbel).mono ?_
      rintro e w1 ⟨rfl, hb1⟩
      have hb2 := hbel.trans (hb1.mono hbel.size)
      cases hp : p 2048
      · go_wp2
        go_roundw
        case rel =>
          refine ⟨3, by omega, by go_num, fun j hj' => ?_, hb2⟩
          by_cases he : j = 2
          · subst he; exact hp
          · exact hj.out j (by omega)
        case measure => simp [intOf]
      · go_wp2
        go_ret
        refine ⟨?_, hb2⟩
        have hi := idxOf_at p belows 2 (by decide) (fun j hj' => by have h1 := hj.out j hj'; rwa [List.getElem?_eq_getElem (by have : belows.length = 5 := rfl; omega)] at h1) hp
        rw [hi]
        rfl
    · go_wp2_with fail
      refine (HG.out _ _ _ hbel).mono ?_
      rintro e w1 ⟨rfl, hb1⟩
      have hb2 := hbel.trans (hb1.mono hbel.size)
      cases hp : p 65536
      · go_wp2
        go_roundw
        case rel =>
          refine ⟨4, by omega, by go_num, fun j hj' => ?_, hb2⟩
          by_cases he : j = 3
          · subst he; exact hp
          · exact hj.out j (by omega)
        case measure => simp [intOf]
      · go_wp2
        go_ret
        refine ⟨?_, hb2⟩
        have hi := idxOf_at p belows 3 (by decide) (fun j hj' => by have h1 := hj.out j hj'; rwa [List.getElem?_eq_getElem (by have : belows.length = 5 := rfl; omega)] at h1) hp
        rw [hi]
        rfl
    · go_wp2_with fail
      refine (HG.out _ _ _ hbel).mono ?_
      rintro e w1 ⟨rfl, hb1⟩
      have hb2 := hbel.trans (hb1.mono hbel.size)
      cases hp : p 1114112
      · go_wp2
        go_roundw
        case rel =>
          refine ⟨5, by omega, by go_num, fun j hj' => ?_, hb2⟩
          by_cases he : j = 4
          · subst he; exact hp
          · exact hj.out j (by omega)
        case measure => simp [intOf]
      · go_wp2
        go_ret
        refine ⟨?_, hb2⟩
        have hi := idxOf_at p belows 4 (by decide) (fun j hj' => by have h1 := hj.out j hj'; rwa [List.getElem?_eq_getElem (by have : belows.length = 5 := rfl; omega)] at h1) hp
        rw [hi]
        rfl
    · go_wp2
      go_ret
      refine ⟨?_, hbel⟩
      rw [idxOf_none p belows (fun x hx => by
        obtain ⟨j, hj', rfl⟩ := List.getElem_of_mem hx
        have h1 := hj.out j (by have : belows.length = 5 := rfl; omega)
        rwa [List.getElem?_eq_getElem hj'] at h1)]
      rfl

set_option maxRecDepth 100000 in
set_option maxHeartbeats 400000 in
theorem utf_long1 (b l : Int) (m : Int) (B : Nat) (w : World) (hc : w.cell? ⟨B, 0, none⟩ = some (.int .i32 m)) :
    Calls Tryz.prog 261 #[.agg #[.int .i32 b, .int .u8 l], .pointer (some ⟨B, 0, none⟩)] w fun e w' => e = .returned (.bool (decide (m < b))) ∧ Below w.heap.size w w' := by
  have hc2 := cell_alloc hc (.cells #[.int .i32 b, .int .u8 l] 324)
  go_enter Tryz.func261, Tryz.ntmps261
  go_wp2
  go_ret
  exact ⟨rfl, (Below.refl _ _).alloc (Nat.le_refl _) _⟩

set_option maxRecDepth 100000 in
set_option maxHeartbeats 1000000 in
theorem utf_long (m : Nat) (w : World) (hm : m ≤ 1114111) :
    Calls Tryz.prog 258 #[.int .i32 m] w fun e w' => e = .returned (.int .i64 (lenR m)) ∧ Below w.heap.size w w' := by
  have hi : idxOf (fun b => decide ((m : Int) < b)) belows = lenR m := by
    unfold lenR
    split
    ·
      refine idxOf_at _ belows 1 (by decide) (fun j hj => ?_) (decide_eq_true (by show (m : Int) < 128; omega))
      rcases (show j = 0 by omega) with rfl
      · exact decide_eq_false (by show ¬ (m : Int) < 0; omega)
    · split
      ·
        refine idxOf_at _ belows 2 (by decide) (fun j hj => ?_) (decide_eq_true (by show (m : Int) < 2048; omega))
        rcases (show j = 0 ∨ j = 1 by omega) with rfl | rfl
        · exact decide_eq_false (by show ¬ (m : Int) < 0; omega)
        · exact decide_eq_false (by show ¬ (m : Int) < 128; omega)
      · split
        ·
          refine idxOf_at _ belows 3 (by decide) (fun j hj => ?_) (decide_eq_true (by show (m : Int) < 65536; omega))
          rcases (show j = 0 ∨ j = 1 ∨ j = 2 by omega) with rfl | rfl | rfl
          · exact decide_eq_false (by show ¬ (m : Int) < 0; omega)
          · exact decide_eq_false (by show ¬ (m : Int) < 128; omega)
          · exact decide_eq_false (by show ¬ (m : Int) < 2048; omega)
        ·
          refine idxOf_at _ belows 4 (by decide) (fun j hj => ?_) (decide_eq_true (by show (m : Int) < 1114112; omega))
          rcases (show j = 0 ∨ j = 1 ∨ j = 2 ∨ j = 3 by omega) with rfl | rfl | rfl | rfl
          · exact decide_eq_false (by show ¬ (m : Int) < 0; omega)
          · exact decide_eq_false (by show ¬ (m : Int) < 128; omega)
          · exact decide_eq_false (by show ¬ (m : Int) < 2048; omega)
          · exact decide_eq_false (by show ¬ (m : Int) < 65536; omega)
  have HI := hid hi; clear hi
  go_enter Tryz.func258, Tryz.ntmps258
  go_wp2_with fail
  refine (utf_classes _).mono ?_
  rintro e w1 ⟨rfl, rfl⟩
  go_wp2_with fail
  have hb0 := Boxed.new w 21 (.int .i32 m)
  have hb1 := (hb0.alloc (.cells #[.int .i32 0, .int .u8 0, .int .i32 128, .int .u8 0, .int .i32 2048, .int .u8 192, .int .i32 65536, .int .u8 224, .int .i32 1114112, .int .u8 240] 325)).alloc (.cells #[.int .i32 0, .int .u8 0, .int .i32 128, .int .u8 0, .int .i32 2048, .int .u8 192, .int .i32 65536, .int .u8 224, .int .i32 1114112, .int .u8 240] 325)
  have hB := World.alloc_heap_new ((w.alloc (.cells #[.int .i32 m] 21)).alloc (.cells #[.int .i32 0, .int .u8 0, .int .i32 128, .int .u8 0, .int .i32 2048, .int .u8 192, .int .i32 65536, .int .u8 224, .int .i32 1114112, .int .u8 240] 325)) (.cells #[.int .i32 0, .int .u8 0, .int .i32 128, .int .u8 0, .int .i32 2048, .int .u8 192, .int .i32 65536, .int .u8 224, .int .i32 1114112, .int .u8 240] 325)
  simp only [World.size_alloc] at hB
  refine (indexFunc_class 261 #[.pointer (some ⟨w.heap.size, 0, none⟩)] (fun b => decide ((m : Int) < b)) _ _ hB (enters_of Tryz.func261 (by kernel_rfl) rfl) (fun b l W hW => utf_long1 b l m _ W (boxed_below hb1 hW).cell)).mono ?_
  rintro e w' ⟨rfl, hb⟩
  rw [HI.out]
  go_wp2
  go_ret
  exact ⟨rfl, (((((Below.refl _ w).alloc (Nat.le_refl _) _).alloc (by simp) _).alloc (by simp; omega) _).trans (hb.mono (by simp; omega)))⟩
end Go.Proofs.YtoinabapaeebfaaGreatDoor
