/- The reference's Raw of layer 15; the walk of the law LengthRaws. -/
import Derived.Test.YtjgflihokbmhiaaLenH
import Derived.Test.YtjgflihokbmhiaaRow
namespace Go.Proofs.Ytjgflihokbmhiaa
open Go.RowKit Go.Shelf

theorem bs_append (l m : List UInt8) : bs (l ++ m) = bs l ++ bs m := by simp [bs]

set_option maxRecDepth 100000 in
set_option maxHeartbeats 1000000 in
theorem ref_raw (n : Int) (w : World) (hm : mayL n = true) :
    Calls Try.prog 25 #[.int .i64 n] w fun e w' => ∃ v, e = .returned (.tuple #[v, .bool true]) ∧ w'.ownsRow w.heap.size 5 1 v (sizeL n) (bs (rawL (sizeL n) n.toNat)) ∧ Below w.heap.size w w' := by
  obtain ⟨h1, h2⟩ := (mayL_iff n).1 hm
  obtain ⟨m, rfl⟩ := Int.eq_ofNat_of_zero_le h1
  clear hm h1
  go_enter Try.func25, Try.ntmps25
  go_wp2
  go_loopw [0, 4] (fun i v wr => ∃ k q : Nat, i = .int .i64 q ∧ Hid (q = m / 128 ^ k) ∧ q < 268435456 ∧ k ≤ 4 ∧ Hid (sizeL (m : Int) = k + sizeL (q : Int)) ∧ wr.ownsRow w.heap.size 5 1 v k (bs (rawL k m)) ∧ Below w.heap.size w wr) (fun i _ _ => (intOf i).toNat)
  case atStart => exact ⟨0, m, rfl, by simp [Hid], by omega, by omega, by simp [Hid], World.ownsRow_nil _ _ _ _, Below.refl _ _⟩
  case round =>
    obtain ⟨k, q, rfl, HQ, hq, hk, HS, how, hbel⟩ := hrel
    have hsz := hbel.size
    by_cases h128 : 128 ≤ q
    · have e2 : ((q : Int) / 128) = ((q / 128 : Nat) : Int) := by omega
      have hs := HS.out
      rw [sizeL_nat q hq] at hs
      have hdiv : sizeL (q : Int) = 1 + sizeL ((q / 128 : Nat) : Int) := by
        rw [sizeL_nat q hq, sizeL_nat (q / 128) (by omega)]
        repeat' split
        all_goals omega
      have hk3 : k + 1 ≤ 4 := by
        have := sizeL_le (m : Int)
        split at hs <;> (try omega) <;> (repeat' split at hs) <;> omega
      have HD := hid hdiv
      clear hs hdiv e2
      have hby : (128 + (q : Int) % 128) = ((byteL q).toNat : Int) := by
        rw [← byteL_int, if_neg (by omega)]; omega
      have hby2 : ((byteL q).toNat : Int) % 256 = ((byteL q).toNat : Int) := by have := (byteL q).toNat_lt; omega
      have hsn := rawL_snoc k m
      rw [← HQ.out] at hsn
      generalize byteL q = y at *
      have HSN := hid hsn; clear hsn
      go_wp2_with (at_builtin; refine append_one rfl _ _ rfl Try.eByte w.heap.size _ _ _ rfl how (.int .u8 y.toNat) rfl rfl (by omega) (by omega) (by omega) ?_; intro v' w4 how4 hg4)
      go_roundw
      case rel =>
        refine ⟨k + 1, q / 128, by go_num, ?_, by omega, hk3, ?_, ?_, hbel.grown hg4 (by omega) (fun j hj => (how.lt j hj).1)⟩
        · show q / 128 = m / 128 ^ (k + 1)
          rw [HQ.out, Nat.div_div_eq_div_mul, ← Nat.pow_succ]
        · show sizeL (m : Int) = k + 1 + _
          have h1 := HS.out
          have h2 := HD.out
          omega
        · rw [HSN.out, bs_snoc]; exact how4
      case measure => simp [intOf]; omega
    · have hs := HS.out
      have hq1 : sizeL (q : Int) = 1 := by rw [sizeL_nat q hq, if_pos (by omega)]
      rw [hq1] at hs
      have HS1 := hid hs
      clear hs hq1
      have hby : (q : Int) = ((byteL q).toNat : Int) := by rw [← byteL_int, if_pos (by omega)]
      have hby2 : ((byteL q).toNat : Int) % 256 = ((byteL q).toNat : Int) := by have := (byteL q).toNat_lt; omega
      have hq256 : (q : Int) % 256 = q := by omega
      have hsn := rawL_snoc k m
      rw [← HQ.out] at hsn
      have HSN := hid hsn; have HBY := hid hby
      clear hsn hby hby2
      go_wp2_with (at_builtin; refine append_one rfl _ _ rfl Try.eByte w.heap.size _ _ _ rfl how (.int .u8 q) rfl rfl (by omega) (by omega) (by omega) ?_; intro v' w4 how4 hg4)
      go_ret2
      refine ⟨_, rfl, ?_, hbel.grown hg4 (by omega) (fun j hj => (how.lt j hj).1)⟩
      rw [HS1.out, Int.toNat_natCast, HSN.out, bs_snoc]
      rw [HBY.out] at how4
      exact how4

set_option maxRecDepth 100000 in
theorem ref_raw_no (n : Int) (w : World) (hm : mayL n = false) :
    Calls Try.prog 25 #[.int .i64 n] w fun e w' => e = .returned (.tuple #[.slice none 0 0, .bool false]) ∧ w = w' := by
  rcases (mayL_no n).1 hm with h | h
  · go_enter Try.func25, Try.ntmps25
    go_wp2
    go_ret2
    exact ⟨rfl, rfl⟩
  · have h' : ¬ n < 0 := by omega
    go_enter Try.func25, Try.ntmps25
    go_wp2
    go_ret2
    exact ⟨rfl, rfl⟩

theorem byteL_mod (m : Nat) : (byteL m).toNat % 128 = m % 128 := by
  have := byteL_int m
  split at this <;> omega
theorem byteL_lt (m : Nat) : (byteL m).toNat < 128 ↔ m < 128 := by
  have := byteL_int m
  split at this <;> omega
theorem rawL_cons (s m : Nat) : rawL (s + 1) m = byteL m :: rawL s (m / 128) := rfl
theorem takenL_raw (s m : Nat) (h : m < 128 ^ s) : takenL (rawL s m) = m := by
  induction s generalizing m with
  | zero => simp at h; subst h; rfl
  | succ s ih =>
    rw [rawL_cons, takenL, byteL_mod, ih (m / 128) (by rw [Nat.pow_succ] at h; omega)]
    omega
theorem idxOf_raw (k m : Nat) (t : List UInt8) (h : m < 128 ^ (k + 1)) (h2 : k = 0 ∨ 128 ^ k ≤ m) : idxOf (fun x : UInt8 => decide (x.toNat < 128)) (rawL (k + 1) m ++ t) = k := by
  induction k generalizing m with
  | zero =>
    have h1 := (byteL_lt m).2 (by simpa using h)
    simp [rawL_cons, idxOf, h1]
  | succ k ih =>
    have hp : 128 ^ (k + 1) ≤ m := h2.resolve_left (by omega)
    rw [Nat.pow_succ] at hp h
    have hpos : 0 < 128 ^ k := Nat.pow_pos (by decide)
    have h128 : ¬ (byteL m).toNat < 128 := fun h1 => by have := (byteL_lt m).1 h1; omega
    have h3 := ih (m / 128) (by omega) (by omega)
    rw [rawL_cons (k + 1) m, List.cons_append, idxOf]
    simp only [h128, decide_false, h3]
    simp
    omega
theorem idxOf_takeL {α : Type} (p : α → Bool) (l : List α) (k m : Nat) (h : idxOf p l = k) (hm : k < m) : idxOf p (l.take m) = k := by
  induction l generalizing k m with
  | nil => simp [idxOf] at h
  | cons x l ih =>
    cases m with
    | zero => omega
    | succ m =>
      simp only [List.take_succ_cons, idxOf] at h ⊢
      by_cases hp : p x = true
      · simp only [hp, if_true] at h ⊢; exact h
      · simp only [hp] at h ⊢
        have h1 := (idxOf_lt p l).2
        by_cases h0 : idxOf p l < 0
        · simp [h0] at h
        · simp only [h0] at h
          have h2 := ih (k - 1) m (by simp at h; omega) (by simp at h; omega)
          rw [h2]
          simp at h ⊢
          omega

/-- Bytes behind a length's own do not turn what is read. -/
theorem readL_raw (n : Int) (hm : mayL n = true) (t : List UInt8) : readL (rawL (sizeL n) n.toNat ++ t) = (n, (sizeL n : Int), 0) := by
  obtain ⟨h1, h2⟩ := (mayL_iff n).1 hm
  obtain ⟨m, rfl⟩ := Int.eq_ofNat_of_zero_le h1
  rw [Int.toNat_natCast]
  obtain ⟨k, hk, hk4, hlo, hhi⟩ : ∃ k, sizeL (m : Int) = k + 1 ∧ k < 4 ∧ (k = 0 ∨ 128 ^ k ≤ m) ∧ m < 128 ^ (k + 1) := by
    have h3 := sizeL_nat m (by omega)
    split at h3
    · exact ⟨0, h3, by omega, .inl rfl, by simpa using by omega⟩
    · split at h3
      · exact ⟨1, h3, by omega, .inr (by simp; omega), by simp; omega⟩
      · split at h3
        · exact ⟨2, h3, by omega, .inr (by simp; omega), by simp; omega⟩
        · exact ⟨3, h3, by omega, .inr (by simp; omega), by simp; omega⟩
  rw [hk]
  have e1 := idxOf_takeL _ _ k 4 (idxOf_raw k m t hhi hlo) hk4
  have e2 : (rawL (k + 1) m ++ t).take (k + 1) = rawL (k + 1) m := by
    rw [List.take_append_of_le_length (by rw [rawL_len]; exact Nat.le_refl _), List.take_of_length_le (by rw [rawL_len]; exact Nat.le_refl _)]
  unfold readL
  simp only [e1, Int.toNat_natCast, e2, takenL_raw (k + 1) m hhi, hk]
  rw [if_neg (by omega)]
  simp

set_option maxRecDepth 100000 in
set_option maxHeartbeats 1000000 in
theorem walk_LengthRaws (x : Int) (wx : (Lit.int .i64 x).wf = true) (a : Option Addr) (n cap : Nat) (l : List UInt8) (w : World) (h : RowAt w a n cap (bs l)) :
    Calls Try.prog 7 #[.int .i64 x, .slice a n cap] w fun e w' => e = .returned (.bool true) ∧ Below w.heap.size w w' := by
  have hmax := h.max
  have hle := h.le
  unfold maxLen at hmax
  by_cases hn : 100 < n
  · go_enter Try.func7, Try.ntmps7
    go_wp2_with (go_at_call 12; refine (known15 _).mono ?_; rintro e w1 ⟨rfl, hb⟩)
    go_ret
    exact ⟨rfl, hb⟩
  · cases hm : mayL x
    · have C1 := hid (fun W => len_raw_no x W hm)
      have C2 := hid (fun W => ref_raw_no x W hm)
      have C3 := hid (len_size x)
      have hs0 : sizeL x = 0 := by simp [sizeL, hm]
      have HS := hid hs0; clear hs0
      go_enter Try.func7, Try.ntmps7
      go_wp2_with fail
      refine (C1.out _).mono ?_
      rintro e w1 ⟨rfl, hb1⟩
      go_wp2_with fail
      refine (C2.out _).mono ?_
      rintro e w2 ⟨rfl, rfl⟩
      go_wp2_with fail
      refine (C3.out _).mono ?_
      rintro e w3 ⟨rfl, hb3⟩
      rw [HS.out]
      go_wp2_with fail
      refine (known15 _).mono ?_
      rintro e w4 ⟨rfl, hb4⟩
      go_wp2
      go_ret
      have hb13 := hb1.trans (hb3.mono hb1.size)
      exact ⟨rfl, hb13.trans (hb4.mono hb13.size)⟩
    · have C1 := hid (fun W => len_raw x W hm)
      have C2 := hid (fun W => ref_raw x W hm)
      have C3 := hid (len_size x)
      have hsz := sizeL_le x
      have hlen := rawL_len (sizeL x) x.toNat
      have hR := readL_raw x hm l
      generalize hs : sizeL x = s at *
      generalize hr : rawL s x.toNat = r at *
      have HR := hid hR; have HS := hid hs; have HRR := hid hr; have HLen := hid hlen
      clear hR hs hr hlen hm wx
      go_enter Try.func7, Try.ntmps7
      go_wp2_with fail
      refine (C1.out _).mono ?_
      rintro e w1 ⟨v1, rfl, ho1, hb1⟩
      obtain ⟨a1, c1, rfl, hr1⟩ := RowAt.of_own ho1
      go_wp2_with fail
      refine (C2.out _).mono ?_
      rintro e w2 ⟨v2, rfl, ho2, hb2⟩
      obtain ⟨a2, c2, rfl, hr2⟩ := RowAt.of_own ho2
      have hr1' := hr1.below hb2
      have hb12 := hb1.trans (hb2.mono hb1.size)
      have hrl := h.below hb12
      go_wp2_with (first | (at_builtin; refine append_any rfl (.const (.slice none 0 0)) (.tmp 44) rfl Try.eByte w2.heap.size _ 0 [] rfl (World.ownsRow_nil _ _ _ _) a1 s c1 (bs r) (bs_one r) rfl hr1' (by omega) (by omega) (Nat.le_refl _) ?_; intro v3 w3 how3 hg3; have hrl3 := hrl.below ((Below.refl _ w2).grown hg3 (Nat.le_refl _) (fun k hk => by cases hk))) | (at_builtin; refine append_any rfl (.tmp 45) (.tmp 46) rfl Try.eByte w2.heap.size _ _ _ rfl how3 a n cap (bs l) (bs_one l) rfl hrl3 (by omega) (by omega) hg3.size ?_; intro v4 w4 how4 hg4; obtain ⟨a4, c4, hv4, hr4⟩ := RowAt.of_own how4; subst hv4))
      have hb23 : Below w2.heap.size w2 w3 := (Below.refl _ w2).grown hg3 (Nat.le_refl _) (fun k hk => by cases hk)
      have hb24 : Below w2.heap.size w2 w4 := hb23.grown hg4 hg3.size (fun k hk => (how3.lt k hk).1)
      have C4 := hid (len_read a4 (s + n) c4 (r ++ l) w4 (by rw [bs_append]; simpa using hr4))
      rw [HR.out] at C4
      clear how3 hg3 how4 hg4 hrl3 hr4
      refine C4.out.mono ?_
      rintro e w5 ⟨rfl, hb5⟩
      have hb25 := hb24.trans (hb5.mono hb24.size)
      have s1 := run_str (hr1'.below hb25)
      have s2 := run_str (hr2.below hb25)
      have hb15 := hb12.trans (hb25.mono hb12.size)
      clear hb23 hb24 hb5 C4
      go_wp2_with fail
      refine (C3.out _).mono ?_
      rintro e w6 ⟨rfl, hb6⟩
      have hb16 := hb15.trans (hb6.mono hb15.size)
      go_wp2_with fail
      refine (known15 _).mono ?_
      rintro e w7 ⟨rfl, hb7⟩
      go_wp2
      go_ret
      exact ⟨rfl, hb16.trans (hb7.mono hb16.size)⟩
end Go.Proofs.Ytjgflihokbmhiaa
