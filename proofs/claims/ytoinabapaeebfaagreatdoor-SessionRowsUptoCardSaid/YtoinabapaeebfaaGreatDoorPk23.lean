/- Parts of the proof of SessionRows: contracts of functions that it reaches, and plain lemmas. No condition of their own. -/
import Derived.Test.YtoinabapaeebfaaGreatDoorPk01
import Derived.Laws.FloatArith
import Derived.WalkLawsBesides
import Derived.Test.YtoinabapaeebfaaGreatDoorPk22
import Derived.Test.YtoinabapaeebfaaGreatDoorPk06
import Derived.Test.YtoinabapaeebfaaGreatDoorPk15
import Derived.Test.YtoinabapaeebfaaGreatDoorPk16
import Derived.Laws.Externs
set_option linter.unusedSimpArgs false
set_option linter.unusedVariables false
set_option maxRecDepth 100000
set_option maxHeartbeats 8000000
namespace Go.Proofs.YtoinabapaeebfaaGreatDoor
open Go.RowKit Go.Shelf
section
open Ieee
def Val (b : Nat) (v : Nat) : Prop := ∃ (m : Nat) (e : Int), double.read b = .number false m e /\ -1074 <= e /\ m * 2 ^ (e + 1074).toNat = v * 2 ^ 1072
theorem double_least : double.leastPlace = -1074 := by decide
theorem double_binade : double.binade = 2 ^ 52 := rfl
theorem double_inf : double.infRung = 2047 * 2 ^ 52 := by decide
theorem double_sw : double.signWeight = 2 ^ 63 := by decide
theorem word_false (r : Nat) : double.word false r = r := rfl
theorem read_rung (r : Nat) (h : r < 2047 * 2 ^ 52) : double.read r = if r < 2 ^ 52 then .number false r (-1074) else .number false (2 ^ 52 + r % 2 ^ 52) (-1074 + (r / 2 ^ 52 - 1 : Nat)) := by
 unfold Format.read
 rw [double_least, double_binade, double_inf, double_sw]
 have h1 : r / 2 ^ 63 = 0 := Nat.div_eq_of_lt (by omega)
 have h2 : r % 2 ^ 63 = r := Nat.mod_eq_of_lt (by omega)
 simp only [h1, h2, if_pos h]
 rfl
theorem cut_exact (neg : Bool) (k drop : Nat) (hk : 0 < k) : Toward.even.cut neg (k * 2 ^ drop) drop = k := by
 have hp : 0 < 2 ^ drop := Nat.two_pow_pos _
 have hl : drop <= (k * 2 ^ drop).log2 := by
  rw [Nat.le_log2 (Nat.ne_of_gt (Nat.mul_pos hk hp))]
  exact Nat.le_mul_of_pos_left _ hk
 unfold Toward.cut
 have hm : min drop ((k * 2 ^ drop).log2 + 2) = drop := by omega
 simp only [hm, Nat.one_shiftLeft, Nat.mul_div_cancel _ hp, Nat.mul_mod_left]
 have h0 : (2 ^ drop == 2 * 0) = false := by simp
 simp
theorem pow_between {a b x : Nat} (h1 : 2 ^ a <= x) (h2 : x < 2 ^ (b + 1)) : a <= b := by
 have := Nat.lt_of_le_of_lt h1 h2
 have := (Nat.pow_lt_pow_iff_right (a := 2) (by decide)).1 this
 omega
theorem pow_split {i j k : Nat} (h : i = j + k) : (2 : Nat) ^ i = 2 ^ j * 2 ^ k := by rw [h, Nat.pow_add]
theorem nearest_exact (m : Nat) (e : Int) (v K : Nat) (hK : 1074 <= K) (he : -(K : Int) <= e) (hv : m * 2 ^ (e + K).toNat = v * 2 ^ (K - 2)) (hlt : v < 2 ^ 53) : Val (double.nearest false m e) v := by
 by_cases hm : m = 0
 ·subst hm
  have h0 : v = 0 := by
   rcases Nat.eq_zero_or_pos v with h | h
   ·exact h
   ·have := Nat.mul_pos h (Nat.two_pow_pos (K - 2)); omega
  subst h0;refine ⟨0, -1074, ?_, Int.le_refl _, by generalize (2 : Nat) ^ 1072 = c; rw [Nat.zero_mul, Nat.zero_mul]⟩
  unfold Format.nearest
  rw [if_pos rfl]
  show double.read 0 = _
  rw [read_rung 0 (by decide)]
  rfl
 have hm0 : 0 < m := Nat.pos_of_ne_zero hm
 have hv0 : 0 < v := by
  rcases Nat.eq_zero_or_pos v with h | h
  ·subst h
   have := Nat.mul_pos hm0 (Nat.two_pow_pos (e + K).toNat)
   omega
  ·exact h
 obtain ⟨L, hL⟩ : ∃ L, m.log2 = L := ⟨_, rfl⟩
 obtain ⟨V, hV⟩ : ∃ V, v.log2 = V := ⟨_, rfl⟩
 have l1 : 2 ^ L <= m := by rw [<- hL]; exact Nat.log2_self_le hm
 have l2 : m < 2 ^ (L + 1) := by rw [<- hL]; exact Nat.lt_log2_self
 have v1 : 2 ^ V <= v := by rw [<- hV]; exact Nat.log2_self_le (Nat.ne_of_gt hv0)
 have v2 : v < 2 ^ (V + 1) := by rw [<- hV]; exact Nat.lt_log2_self
 obtain ⟨A, hA⟩ : ∃ A, (e + K).toNat = A := ⟨_, rfl⟩
 rw [hA] at hv
 have pa := Nat.two_pow_pos A
 have pk := Nat.two_pow_pos (K - 2)
 have e1 : L + A <= V + (K - 2) := by
  refine pow_between (x := m * 2 ^ A) ?_ ?_
  ·rw [Nat.pow_add]; exact Nat.mul_le_mul_right _ l1
  ·rw [hv, show V + (K - 2) + 1 = (V + 1) + (K - 2) by omega, Nat.pow_add]; exact Nat.mul_lt_mul_of_pos_right v2 pk
 have e2 : V + (K - 2) <= L + A := by
  refine pow_between (x := m * 2 ^ A) ?_ ?_
  ·rw [hv, Nat.pow_add]; exact Nat.mul_le_mul_right _ v1
  ·rw [show L + A + 1 = (L + 1) + A by omega, Nat.pow_add]; exact Nat.mul_lt_mul_of_pos_right l2 pa
 have hV52 : V <= 52 := pow_between v1 hlt
 have hAe : (A : Int) = e + K := by omega
 have hlast : max (e + (L : Int) - 52) (-1074) = (V : Int) - 54 := by omega
 have hk1 : 2 ^ 52 <= v * 2 ^ (52 - V) := by
  rw [pow_split (show 52 = V + (52 - V) by omega)]; exact Nat.mul_le_mul_right _ v1
 have hk2 : v * 2 ^ (52 - V) < 2 ^ 53 := by
  rw [pow_split (show 53 = (V + 1) + (52 - V) by omega)]; exact Nat.mul_lt_mul_of_pos_right v2 (Nat.two_pow_pos _)
 obtain ⟨kp, hkp⟩ : ∃ k, v * 2 ^ (52 - V) = k := ⟨_, rfl⟩
 rw [hkp] at hk1 hk2
 have hcut : Toward.even.cut false (m <<< (e - ((V : Int) - 54)).toNat) (((V : Int) - 54) - e).toNat = kp := by
  rw [Nat.shiftLeft_eq]
  rcases Int.le_total ((V : Int) - 54) e with h | h
  ·rw [show (((V : Int) - 54) - e).toNat = 0 by omega]
   obtain ⟨D, hD⟩ : ∃ D, (e - ((V : Int) - 54)).toNat = D := ⟨_, rfl⟩
   rw [hD]
   have hq : m * 2 ^ D = kp := by
    rw [<- hkp]
    rw [pow_split (show A = D + (V + K - 54) by omega), pow_split (show K - 2 = (52 - V) + (V + K - 54) by omega), <- Nat.mul_assoc, <- Nat.mul_assoc] at hv
    exact Nat.eq_of_mul_eq_mul_right (Nat.two_pow_pos _) hv
   rw [hq]
   have := cut_exact false kp 0 (by omega)
   simpa using this
  ·rw [show (e - ((V : Int) - 54)).toNat = 0 by omega]
   obtain ⟨D, hD⟩ : ∃ D, (((V : Int) - 54) - e).toNat = D := ⟨_, rfl⟩
   rw [hD]
   have hq : m = kp * 2 ^ D := by
    rw [<- hkp]
    rw [pow_split (show K - 2 = ((52 - V) + D) + A by omega), <- Nat.mul_assoc, Nat.pow_add, <- Nat.mul_assoc] at hv
    exact Nat.eq_of_mul_eq_mul_right pa hv
   rw [show m * 2 ^ 0 = kp * 2 ^ D by rw [<- hq]; simp]
   exact cut_exact false kp D (by omega)
 have hn : double.nearest false m e = (V + 1020) * 2 ^ 52 + kp := by
  unfold Format.nearest
  rw [if_neg hm, double_least, double_inf, double_binade, hL]
  simp only [show double.fractionBits = 52 from rfl]
  rw [show max (e + (L : Int) - ((52 : Nat) : Int)) (-1074) = (V : Int) - 54 from hlast]
  rw [hcut, show (((V : Int) - 54) - -1074).toNat = V + 1020 by omega]
  rw [word_false]
  exact Nat.min_eq_left (by omega)
 rw [hn]
 refine ⟨kp, (V : Int) - 54, ?_, by omega, ?_⟩
 ·rw [read_rung _ (by omega), if_neg (by omega)]
  have a1 : ((V + 1020) * 2 ^ 52 + kp) % 2 ^ 52 = kp - 2 ^ 52 := by omega
  have a2 : ((V + 1020) * 2 ^ 52 + kp) / 2 ^ 52 = V + 1021 := by omega
  rw [a1, a2]
  rw [show 2 ^ 52 + (kp - 2 ^ 52) = kp by omega, show (-1074 + ((V + 1021 - 1 : Nat) : Int)) = (V : Int) - 54 by omega]
 ·obtain ⟨E, hE⟩ : ∃ E : Nat, 1072 = E := ⟨_, rfl⟩
  rw [hE]
  have h72 : (2 : Nat) ^ E = 2 ^ (52 - V) * 2 ^ ((V : Int) - 54 + 1074).toNat := pow_split (by omega)
  generalize (2 : Nat) ^ E = c at h72 ⊢
  generalize (2 : Nat) ^ ((V : Int) - 54 + 1074).toNat = x at h72 ⊢
  calc kp * x = v * 2 ^ (52 - V) * x := by rw [hkp]
   _ = v * (2 ^ (52 - V) * x) := Nat.mul_assoc _ _ _
   _ = v * c := by rw [h72]
theorem val_int (n : Int) (h0 : 0 <= n) (h : n < 2 ^ 51) : Val (floatOfInt .f64 n) (4 * n.toNat) := by
 unfold floatOfInt FloatKind.nearest FloatKind.encode FloatKind.format Format.write
 simp only
 rw [show decide (n < 0) = false from decide_eq_false (by omega)]
 refine nearest_exact _ 0 _ 1074 (Nat.le_refl _) (by omega) ?_ (by omega)
 obtain ⟨E, hE⟩ : ∃ E : Nat, 1072 = E := ⟨_, rfl⟩
 rw [show n.natAbs = n.toNat by omega, show ((0 : Int) + (1074 : Nat)).toNat = 1072 + 2 from rfl, show 1074 - 2 = 1072 from rfl, Nat.pow_add 2 1072 2, hE]
 generalize 2 ^ E = p
 rw [Nat.mul_comm 4, Nat.mul_assoc, Nat.mul_comm p]
theorem shift_val {m v : Nat} {e base : Int} (hb : base <= e) (h1 : -1074 <= base) (h : m * 2 ^ (e + 1074).toNat = v * 2 ^ 1072) : (m <<< (e - base).toNat) * 2 ^ (base + 1074).toNat = v * 2 ^ 1072 := by
 rw [Nat.shiftLeft_eq, Nat.mul_assoc, <- Nat.pow_add, <- h]
 congr 2
 omega
theorem val_add {a b x y : Nat} (ha : Val a x) (hb : Val b y) (hlt : x + y < 2 ^ 53) : ∃ r, floatBits .add .f64 a b = some r /\ Val r (x + y) := by
 obtain ⟨m, e, r1, l1, h1⟩ := ha
 obtain ⟨n, f, r2, l2, h2⟩ := hb
 refine ⟨double.nearest false (m <<< (e - min e f).toNat + n <<< (f - min e f).toNat) (min e f), ?_, nearest_exact _ _ _ 1074 (Nat.le_refl _) (by omega) ?_ hlt⟩
 ·show double.add a b = _
  unfold Format.add Datum.sum
  rw [r1, r2]
  simp only [Option.map_some, Option.some.injEq, Datum.sum, signed, Bool.false_eq_true, if_false]
  unfold Format.write
  simp only
  generalize (m <<< (e - min e f).toNat) = p
  generalize (n <<< (f - min e f).toNat) = q
  rw [show ((p : Int) + (q : Int)).natAbs = p + q by omega]
  congr 1
  split
  ·rfl
  ·exact decide_eq_false (by omega)
 ·have e1 := shift_val (base := min e f) (by omega) (by omega) h1
  have e2 := shift_val (base := min e f) (by omega) (by omega) h2
  obtain ⟨E, hE⟩ : ∃ E : Nat, 1072 = E := ⟨_, rfl⟩
  rw [hE] at e1 e2
  rw [show 1074 - 2 = E by omega, show ((min e f) + ((1074 : Nat) : Int)).toNat = (min e f + 1074).toNat from rfl, Nat.add_mul, e1, e2]
  generalize (2 : Nat) ^ E = c
  exact (Nat.add_mul _ _ _).symm
theorem val_mul {a b x y v : Nat} (ha : Val a x) (hb : Val b y) (hxy : x * y = 4 * v) (hlt : v < 2 ^ 53) : ∃ r, floatBits .mul .f64 a b = some r /\ Val r v := by
 obtain ⟨m, e, r1, l1, h1⟩ := ha
 obtain ⟨n, f, r2, l2, h2⟩ := hb
 refine ⟨double.nearest false (m * n) (e + f), ?_, nearest_exact _ _ _ 2148 (by decide) (by omega) ?_ hlt⟩
 ·show double.mul a b = _
  unfold Format.mul Datum.product
  rw [r1, r2]
  rfl
 ·have hp : m * 2 ^ (e + 1074).toNat * (n * 2 ^ (f + 1074).toNat) = x * 2 ^ 1072 * (y * 2 ^ 1072) := by rw [h1, h2]
  rw [show (e + f + ((2148 : Nat) : Int)).toNat = (e + 1074).toNat + (f + 1074).toNat by omega, Nat.pow_add]
  obtain ⟨E, hE⟩ : ∃ E : Nat, 1072 = E := ⟨_, rfl⟩
  have h46 : 2148 - 2 = E + E + 2 := by omega
  have hq : (2 : Nat) ^ (2148 - 2) = 2 ^ E * 2 ^ E * 4 := by rw [h46, Nat.pow_add, Nat.pow_add]
  rw [hE] at hp
  rw [hq]
  generalize (2 : Nat) ^ E = p at *
  generalize (2 : Nat) ^ (e + 1074).toNat = u at *
  generalize (2 : Nat) ^ (f + 1074).toNat = t at *
  calc m * n * (u * t) = m * u * (n * t) := Nat.mul_mul_mul_comm m n u t
   _ = x * p * (y * p) := hp
   _ = x * y * (p * p) := Nat.mul_mul_mul_comm x p y p
   _ = v * (p * p * 4) := by rw [hxy, Nat.mul_comm 4 v, Nat.mul_assoc, Nat.mul_comm 4]
theorem val_order {a b x y : Nat} (ha : Val a x) (hb : Val b y) : double.order a b = some (compare x y) := by
 obtain ⟨m, e, r1, l1, h1⟩ := ha
 obtain ⟨n, f, r2, l2, h2⟩ := hb
 have e1 := shift_val (base := min e f) (by omega) (by omega) h1
 have e2 := shift_val (base := min e f) (by omega) (by omega) h2
 unfold Format.order Datum.order
 rw [r1, r2]
 simp only [signed, Bool.false_eq_true, if_false]
 generalize (m <<< (e - min e f).toNat) = p at *
 generalize (n <<< (f - min e f).toNat) = q at *
 generalize (min e f + 1074).toNat = k at *
 congr 1
 have pk : 0 < 2 ^ k := Nat.two_pow_pos _
 obtain ⟨E, hE⟩ : ∃ E : Nat, 1072 = E := ⟨_, rfl⟩
 rw [hE] at e1 e2
 have pc : (0 : Nat) < 2 ^ E := Nat.two_pow_pos E
 generalize (2 : Nat) ^ k = u at *
 generalize (2 : Nat) ^ E = c at *
 have lt_iff : p < q ↔ x < y := by
  rw [<- Nat.mul_lt_mul_right pk, e1, e2, Nat.mul_lt_mul_right pc]
 have eq_iff : p = q ↔ x = y := by
  rw [<- Nat.mul_left_inj (Nat.ne_of_gt pk), e1, e2, Nat.mul_left_inj (Nat.ne_of_gt pc)]
 have c1 : compare (p : Int) (q : Int) = if (p : Int) < q then .lt else if (p : Int) = q then .eq else .gt := rfl
 have c2 : compare x y = if x < y then .lt else if x = y then .eq else .gt := rfl
 rw [c1, c2]
 have i1 : (p : Int) < q ↔ x < y := by rw [<- lt_iff]; omega
 have i2 : (p : Int) = q ↔ x = y := by rw [<- eq_iff]; omega
 simp only [i1, i2]
def infB : Nat := 0x7FF0000000000000
theorem read_inf : double.read infB = .infinity false := by decide
theorem order_inf {a x : Nat} (ha : Val a x) : double.order a infB = some .lt := by
 obtain ⟨m, e, r1, _, _⟩ := ha
 unfold Format.order Datum.order
 rw [r1, read_inf]
 rfl
theorem val_half3 : Val 0x3FF8000000000000 6 := ⟨2 ^ 52 + 2 ^ 51, -52, by decide, by decide, by
 obtain ⟨E, hE⟩ : ∃ E : Nat, 1022 = E := ⟨_, rfl⟩
 rw [show ((-52 : Int) + 1074).toNat = 1022 from rfl, show (1072 : Nat) = 50 + 1022 from rfl, Nat.pow_add 2 50 1022, hE]
 generalize (2 : Nat) ^ E = p
 show _ = 6 * (2 ^ 50 * p)
 rw [<- Nat.mul_assoc]⟩
end
section
theorem frombits (n : Int) (w : World) : (callFunc 117 #[.int .u64 n]).run Tryz.prog w = .ok (.value (.float .f64 n.toNat)) w := by
 rw [run_callFunc_extern Tryz.func117 (by kernel_rfl) (by kernel_rfl) (by kernel_rfl) (show Extern.find Tryz.f117 = some Extern.MathFloatBits.float64frombits by kernel_rfl)]
 rfl
theorem math_Inf (w : World) : Calls Tryz.prog 61 #[.int .i64 1] w fun e w' => e = .returned (.float .f64 infB) /\ w = w' := by
 have hf := frombits 9218868437227405312
 go_enter Tryz.func61, Tryz.ntmps61
 go_wp2
 go_ret
 exact ⟨rfl, rfl⟩
def XS.due (x : XS) : Nat := 4 * x.heard.toNat + 6 * x.keep.toNat
def XS.runs (x : XS) : Bool := x.on && !decide (x.keep = 0)
def DueB (x : XS) (b : Nat) : Prop := if x.runs then Val b x.due else b = infB
theorem ses_Due {w : World} {B : Nat} {S : XLay} {x : XS} (h : XB w B S x) (h0 : 0 <= x.heard) (h1 : x.heard <= 1125899906842624) :
  Calls Tryz.prog 21 #[.pointer (some ⟨S.p, 0, none⟩)] w fun e w' => ∃ b, e = .returned (.float .f64 b) /\ DueB x b /\ Below w.heap.size w w' := by
 obtain ⟨most, subs, o, ids, wants, clean, on, keep, heard, will⟩ := x
 dsimp only at h0 h1
 have k8 : w.cell? ⟨S.p, 8, none⟩ = some (.bool on) := h.box.cell 8
 have k9 : w.cell? ⟨S.p, 9, none⟩ = some (.int .i64 keep) := h.box.cell 9
 have k10 : w.cell? ⟨S.p, 10, none⟩ = some (.int .i64 heard) := h.box.cell 10
 have hk := h.ok.keep
 dsimp only at hk
 have CN := hid (ses_none h)
 have CI := hid math_Inf;unfold DueB XS.runs XS.due
 dsimp only
 cases on with
 | false =>
  go_enter Tryz.func21, Tryz.ntmps21
  go_wp2_with (first
   | (go_at_call 60; refine CN.out.mono ?_; rintro e w1 ⟨rfl, rfl⟩)
   | (go_at_call 61; refine (CI.out _).mono ?_; rintro e w1 ⟨rfl, rfl⟩))
  go_ret
  exact ⟨_, rfl, by simp, Below.refl _ _⟩
 | true =>
  by_cases hz : keep = 0
  ·subst hz
   go_enter Tryz.func21, Tryz.ntmps21
   go_wp2_with (first
    | (go_at_call 60; refine CN.out.mono ?_; rintro e w1 ⟨rfl, rfl⟩)
    | (go_at_call 61; refine (CI.out _).mono ?_; rintro e w1 ⟨rfl, rfl⟩))
   go_ret
   exact ⟨_, rfl, by simp, Below.refl _ _⟩
  ·have dz : (keep == 0) = false := by simp [hz]
   obtain ⟨m, hm, vm⟩ := val_mul (v := 6 * keep.toNat) val_half3 (val_int keep hk.1 (by omega)) (by omega) (by omega)
   obtain ⟨s, hs, vs⟩ := val_add (val_int heard h0 (by omega)) vm (by omega)
   have rm := fun W => run_float_arith (P := Tryz.prog) W .mul 61 .f64 _ _ _ hm
   have rs := fun W => run_float_arith (P := Tryz.prog) W .add 61 .f64 _ _ _ hs
   clear hm vm hs;go_enter Tryz.func21, Tryz.ntmps21
   go_wp2_with (go_at_call 60; refine CN.out.mono ?_; rintro e w1 ⟨rfl, rfl⟩)
   go_quiet (fail)
   go_wp2
   all_goals go_ret
   all_goals refine ⟨_, rfl, ?_, ?_⟩
   all_goals first | exact below_drewN' _ _ | exact vs | (simp [hz]; exact vs)
theorem ses_Late {w : World} {B : Nat} {S : XLay} {x : XS} (h : XB w B S x) (h0 : 0 <= x.heard) (h1 : x.heard <= 1125899906842624) (now : Int) (h2 : 0 <= now) (h3 : now <= 1125899906842624) :
  Calls Tryz.prog 23 #[.pointer (some ⟨S.p, 0, none⟩), .int .i64 now] w fun e w' => e = .returned (.bool (x.runs && decide (x.due < 4 * now.toNat))) /\ Below w.heap.size w w' := by
 have CD := hid (ses_Due h h0 h1)
 go_enter Tryz.func23, Tryz.ntmps23
 go_wp2_with (go_at_call 21; refine CD.out.mono ?_; rintro e w1 ⟨b, rfl, hd, hb⟩)
 go_ret
 refine ⟨?_, hb⟩
 have hv := val_int now h2 (by omega)
 unfold DueB at hd
 show Ending.returned (.bool (Ieee.double.order _ _ == some .gt)) = _
 cases hr : x.runs with
 | false =>
  rw [hr] at hd
  simp at hd
  subst hd;rw [order_inf hv]
  rfl
 | true =>
  rw [hr] at hd
  simp at hd
  rw [val_order hv hd]
  congr 2
  rw [Bool.eq_iff_iff]
  simp [Nat.compare_eq_gt]
theorem ses_Client {w : World} {B : Nat} {S : XLay} {x : XS} (h : XB w B S x) :
  Calls Tryz.prog 62 #[.pointer (some ⟨S.p, 0, none⟩)] w fun e w' => e = .returned (.string ⟨x.o.client.toArray⟩) /\ Below w.heap.size w w' := by
 have k0 : w.cell? ⟨S.p, 0, none⟩ = some (.pointer (some ⟨S.o.p, 0, none⟩)) := h.box.cell 0
 have CN := hid (ses_none h)
 have CS := out_Session h.ob
 have hfl : ∀ W, (Instr.field 33 (.agg x.o.session.vals) 1).run Tryz.prog W = .ok (.string ⟨x.o.client.toArray⟩) W := fun W => by kernel_rfl
 unfold RowV.vals OS.session at hfl
 unfold RowV.vals OS.session at CS
 replace CS := hid CS;go_enter Tryz.func62, Tryz.ntmps62
 go_wp2_with (first
  | (go_at_call 60; refine CN.out.mono ?_; rintro e w1 ⟨rfl, rfl⟩)
  | (go_at_call 14; refine CS.out.mono ?_; rintro e w1 ⟨rfl, hb⟩))
 go_ret
 exact ⟨rfl, hb⟩
def XS.sub (x : XS) (filter : List UInt8) (qos : Int) : RowV := ⟨2, x.o.client, 0, 0, filter, [], qos, false, 0⟩
def XS.inr (x : XS) (id : Int) : RowV := ⟨4, x.o.client, 0, id, [], [], 0, false, 0⟩
theorem ses_sub {w : World} {B : Nat} {S : XLay} {x : XS} (h : XB w B S x) (filter : List UInt8) (qos : Int) :
  Calls Tryz.prog 65 #[.pointer (some ⟨S.p, 0, none⟩), .string ⟨filter.toArray⟩, .int .i64 qos] w fun e w' => e = .returned (.agg (x.sub filter qos).vals) /\ Below w.heap.size w w' := by
 have CC := hid fun o => ses_Client (h.alloc o)
 unfold RowV.vals XS.sub
 go_enter Tryz.func65, Tryz.ntmps65
 go_wp2_with (first
  | (go_at_call 62; refine (CC.out _).mono ?_; rintro e w1 ⟨rfl, hb⟩; have D0 := hid ((Blk.new w #[.int .i64 0, .string ⟨#[]⟩, .int .i64 0, .int .i64 0, .string ⟨#[]⟩, .string ⟨#[]⟩, .int .i64 0, .bool false, .int .i64 0] 33).below hb))
  | (refine wS 33 9 rfl w.heap.size _ #[.int .i64 2,.string ⟨x.o.client.toArray⟩,.int .i64 0,.int .i64 0,.string ⟨filter.toArray⟩,.string ⟨#[]⟩,.int .i64 qos,.bool false,.int .i64 0] rfl rfl D0.out rfl rfl (by simp [Value.oneCell']) ?_; intro w2 hb2 hw2))
 refine bodyPost_ret (results_cell1 Tryz.results65 rfl (run_loadVar_blk hb2 33 Tryz.underlying33 rfl (by kernel_rfl))) rfl ?_
 exact ⟨rfl, (((Below.refl _ w).alloc (Nat.le_refl _) _).trans (hb.mono (by simp))).trans (hw2.below (by have := hb.size; simp at this; omega) (by simp))⟩
theorem ses_in {w : World} {B : Nat} {S : XLay} {x : XS} (h : XB w B S x) (id : Int) :
  Calls Tryz.prog 72 #[.pointer (some ⟨S.p, 0, none⟩), .int .i64 id] w fun e w' => e = .returned (.agg (x.inr id).vals) /\ Below w.heap.size w w' := by
 have CC := hid fun o => ses_Client (h.alloc o)
 unfold RowV.vals XS.inr
 go_enter Tryz.func72, Tryz.ntmps72
 go_wp2_with (first
  | (go_at_call 62; refine (CC.out _).mono ?_; rintro e w1 ⟨rfl, hb⟩; have D0 := hid ((Blk.new w #[.int .i64 0, .string ⟨#[]⟩, .int .i64 0, .int .i64 0, .string ⟨#[]⟩, .string ⟨#[]⟩, .int .i64 0, .bool false, .int .i64 0] 33).below hb))
  | (refine wS 33 9 rfl w.heap.size _ #[.int .i64 4,.string ⟨x.o.client.toArray⟩,.int .i64 0,.int .i64 id,.string ⟨#[]⟩,.string ⟨#[]⟩,.int .i64 0,.bool false,.int .i64 0] rfl rfl D0.out rfl rfl (by simp [Value.oneCell']) ?_; intro w2 hb2 hw2))
 refine bodyPost_ret (results_cell1 Tryz.results72 rfl (run_loadVar_blk hb2 33 Tryz.underlying33 rfl (by kernel_rfl))) rfl ?_
 exact ⟨rfl, (((Below.refl _ w).alloc (Nat.le_refl _) _).trans (hb.mono (by simp))).trans (hw2.below (by have := hb.size; simp at this; omega) (by simp))⟩
end
section
section
variable {P : Program} {w : World}
theorem take_set_drop (cur : Array Value) (j : Nat) (v : Value) (hj : j < cur.size) : (cur.toList.take j ++ [v] ++ cur.toList.drop (j + 1)).toArray = cur.setIfInBounds j v := by
 obtain ⟨l⟩ := cur
 simp only [List.size_toArray] at hj
 simp only [List.setIfInBounds_toArray]
 congr 1
 rw [List.set_eq_take_append_cons_drop, if_pos hj]
 simp
theorem run_store_cell (t T : TypeId) (hs : ∀ w, (sizeOf t).run P w = .ok 1 w) {b j : Nat} {cur : Array Value} {v : Value} (hb : Blk w b cur T) (hj : j < cur.size) (hv : v.cells = #[v]) (h1 : v.oneCell' = true) :
  (Instr.storeAt t (.pointer (some ⟨b, j, none⟩)) v).run P w = .ok () (w.setRow b (cur.setIfInBounds j v)) := by
 have hr := run_storeCells_at P b j T [v] 0 cur w hb (by simp; omega) (by simpa using h1)
 simp only [Nat.add_zero, List.length_singleton] at hr
 rw [take_set_drop cur j v hj] at hr
 simp [Instr.storeAt, Instr.sureAddr, storeVar, hs, hv, hr]
theorem wp_store_cell {o : Oper} {a : Act} {K : Act -> World -> Prop} {Q : Exit -> Act -> World -> Prop} (t T : TypeId) (x y : Operand) (ho : o.op = .store t x y) (hs : ∀ w, (sizeOf t).run P w = .ok 1 w) (b j : Nat) (cur : Array Value) (v : Value)
  (hx : a.eval x = .pointer (some ⟨b, j, none⟩)) (hy : a.eval y = v) (hb : Blk w b cur T) (hj : j < cur.size) (hv : v.cells = #[v]) (h1 : v.oneCell' = true)
  (h : ∀ w', Blk w' b (cur.setIfInBounds j v) T -> Wrote [b] w w' -> K (a.put o.dst undef) w') : o.wp P a w K Q := by
 have hr := run_store_cell (P := P) t T hs hb hj hv h1
 unfold Oper.wp execOp
 simp only [ho, hx, hy, Sem.run_bind, hr, Result.andThen_ok, Sem.run_pure]
 simp only [Oper.upon]
 exact h _ (setRow_heap w b cur _ T (0, 0) hb) (setRow_wrote b _)
theorem wpList_store_cell {ops : Array Oper} {rest : List Oper} {op : Oper} {a : Act} {Q : Exit -> Act -> World -> Prop} (hgd : op.guard = none) (t T : TypeId) (x y : Operand) (ho : op.op = .store t x y) (hs : ∀ w, (sizeOf t).run P w = .ok 1 w) (b j : Nat) (cur : Array Value) (v : Value)
  (hx : a.eval x = .pointer (some ⟨b, j, none⟩)) (hy : a.eval y = v) (hb : Blk w b cur T) (hj : j < cur.size) (hv : v.cells = #[v]) (h1 : v.oneCell' = true)
  (h : ∀ w', Blk w' b (cur.setIfInBounds j v) T -> Wrote [b] w w' -> wpList P ops Q rest (a.put op.dst undef) w') : wpList P ops Q (op :: rest) a w :=
 wpList_plain hgd fun _ hK => wp_store_cell t T x y ho hs b j cur v hx hy hb hj hv h1 fun w' hb' hw' => hK _ _ (h w' hb' hw')
end
theorem Wrote.andNew {M N : List Nat} {a b c : World} (h : Wrote M a b) (k : Wrote N b c) (hN : ∀ x ∈ N, a.heap.size <= x) : Wrote M a c :=
 ⟨k.os.trans h.os, k.tape.trans h.tape, k.output.trans h.output, Nat.le_trans h.size k.size, fun i hi hm => (k.block i (Nat.lt_of_lt_of_le hi h.size) (fun hx => by have := hN i hx; omega)).trans (h.block i hi hm)⟩
theorem results_ct1 {P : Program} {w : World} {fn : Func} {a b : Tmp} {t : TypeId} (h : fn.results = #[.cell a t, .tmp b]) {tmps : Array Value} {p : Addr} (hp : tmps.getD a undef = .pointer (some p)) {v x : Value} (hl : (loadVar t p).run P w = .ok v w) (hx : tmps.getD b undef = x) : (results fn tmps).run P w = .ok (.tuple #[v, x]) w := by
 rw [Array.getD_eq_getD_getElem?] at hp hx
 simp [results, h, hp, hx, asAddr, hl]
end
section
theorem wv_not_p {w : World} {B : Nat} {S : XLay} {x : XS} (h : XB w B S x) : ∀ b ∈ S.wv.toList, b ∉ [S.p] := by
 intro b hb
 have := h.nodup
 simp only [XLay.own, List.nodup_cons, List.mem_cons, not_or] at this
 simp only [List.mem_singleton]
 rintro rfl
 exact this.1.2.2.2 hb
theorem foot_less {S : XLay} : ∀ y ∈ XLay.foot { S with wv := none }, y ∈ S.foot := by
 intro y hy
 simp only [XLay.foot, XLay.own, List.cons_append, List.mem_cons, List.mem_append, Option.toList_none, List.nil_append] at hy ⊢
 rcases hy with h | h | h | h | h <;> simp [h]
theorem ses_Off {w : World} {B : Nat} {S : XLay} {x : XS} (h : XB w B S x) :
  Calls Tryz.prog 26 #[.pointer (some ⟨S.p, 0, none⟩)] w fun e w' => e = .returned (.tuple #[.agg (x.will.getD noWill).vals, .bool x.will.isSome]) /\
   XB w' B { S with wv := none } { x with on := false, will := none } /\ Stp S.foot (XLay.foot { S with wv := none }) w w' := by
 have CN := hid fun o => ses_none (h.alloc o)
 have hlt := h.box.lt
 have k11 : ∀ o, (w.alloc o).cell? ⟨S.p, 11, none⟩ = some (ptrO S.wv) := fun o => (h.box.alloc o).cell 11
 have hnp : w.heap.size ∉ [S.p] := by simp only [List.mem_singleton]; omega
 have hwl := h.will
 have hbp0 := wv_not_p h
 rcases hv : S.wv with _ | b <;> rcases hu : x.will with _ | v <;> rw [hv, hu] at hwl <;> simp only [WillAt] at hwl
 ·rw [hv] at k11
  simp only [ptrO, Option.map_none] at k11
  have H := hid h;clear h;go_enter Tryz.func26, Tryz.ntmps26
  go_wp2_with (first
   | (go_at_call 60; refine (CN.out _).mono ?_; rintro e w1 ⟨rfl, rfl⟩)
   | (refine wpList_store_cell rfl 4 132 _ _ rfl (fun w => by kernel_rfl) S.p 8 _ _ rfl rfl (H.out.box.alloc _) (by simp [XLay.cells]) rfl rfl ?_; intro w2 hb2 hw2)
   | (refine wpList_store_cell rfl 72 132 _ _ rfl (fun w => by kernel_rfl) S.p 11 _ _ rfl rfl hb2 (by simp [XLay.cells]) rfl rfl ?_; intro w3 hb3 hw3)
   | (refine wpList_load_blk rfl 67 _ rfl b v.vals rfl (((Blk.alloc hwl _).wrote hw2 hbp).wrote hw3 hbp) Tryz.underlying67 rfl (by kernel_rfl) ?_)
   | (refine wS 67 4 rfl w.heap.size _ noWill.vals rfl rfl (((Blk.new w _ _).wrote hw2 hnp).wrote hw3 hnp) rfl rfl (by simp [Value.oneCell', WillV.vals, noWill]) ?_; intro w4 hb4 hw4))
  refine bodyPost_ret (results_ct1 Tryz.results26 rfl (run_loadVar_blk hb4 67 Tryz.underlying67 rfl (by kernel_rfl)) rfl) rfl ?_
  have hx1 := (H.out.alloc _).rebox none x.clean false x.keep x.heard none H.out.ok.keep (hw2.trans hw3) hb3 trivial (by simp)
  have hwn : ∀ z ∈ [w.heap.size], z ∉ XLay.foot { S with wv := none } := fun z hz hf => by
   have := H.out.lt z (foot_less z hf)
   simp only [List.mem_singleton] at hz
   omega
  refine ⟨rfl, hx1.out hw4 hwn (by have := H.out.ob.tz.lt; simp only [List.mem_singleton]; omega), ⟨?_, fun y hy => .inl (foot_less y hy)⟩⟩
  exact ((((Wrote.alloc [S.p] w _).trans hw2).trans hw3).andNew hw4 (by simp)).sub (by simp [XLay.foot, XLay.own])
 ·rw [hv] at k11
  simp only [ptrO, Option.map_some] at k11
  have hbp : b ∉ [S.p] := hbp0 b (by simp [hv])
  have H := hid h;clear h;go_enter Tryz.func26, Tryz.ntmps26
  go_wp2_with (first
   | (go_at_call 60; refine (CN.out _).mono ?_; rintro e w1 ⟨rfl, rfl⟩)
   | (refine wpList_store_cell rfl 4 132 _ _ rfl (fun w => by kernel_rfl) S.p 8 _ _ rfl rfl (H.out.box.alloc _) (by simp [XLay.cells]) rfl rfl ?_; intro w2 hb2 hw2)
   | (refine wpList_store_cell rfl 72 132 _ _ rfl (fun w => by kernel_rfl) S.p 11 _ _ rfl rfl hb2 (by simp [XLay.cells]) rfl rfl ?_; intro w3 hb3 hw3)
   | (refine wpList_load_blk rfl 67 _ rfl b v.vals rfl (((Blk.alloc hwl _).wrote hw2 hbp).wrote hw3 hbp) Tryz.underlying67 rfl (by kernel_rfl) ?_)
   | (refine wS 67 4 rfl w.heap.size _ v.vals rfl rfl (((Blk.new w _ _).wrote hw2 hnp).wrote hw3 hnp) rfl rfl (by simp [Value.oneCell', WillV.vals, noWill]) ?_; intro w4 hb4 hw4))
  refine bodyPost_ret (results_ct1 Tryz.results26 rfl (run_loadVar_blk hb4 67 Tryz.underlying67 rfl (by kernel_rfl)) rfl) rfl ?_
  have hx1 := (H.out.alloc _).rebox none x.clean false x.keep x.heard none H.out.ok.keep (hw2.trans hw3) hb3 trivial (by simp)
  have hwn : ∀ z ∈ [w.heap.size], z ∉ XLay.foot { S with wv := none } := fun z hz hf => by
   have := H.out.lt z (foot_less z hf)
   simp only [List.mem_singleton] at hz
   omega
  refine ⟨rfl, hx1.out hw4 hwn (by have := H.out.ob.tz.lt; simp only [List.mem_singleton]; omega), ⟨?_, fun y hy => .inl (foot_less y hy)⟩⟩
  exact ((((Wrote.alloc [S.p] w _).trans hw2).trans hw3).andNew hw4 (by simp)).sub (by simp [XLay.foot, XLay.own])
end
section
def WillV.may (v : WillV) : Bool := nameR v.topic && decide ((v.body.length : Int) <= 2000) && (decide (0 <= v.qos) && decide (v.qos <= 2))
theorem ses_On_refused {w : World} {B : Nat} {S : XLay} {x : XS} (h : XB w B S x) (clean : Bool) (keep now : Int) (a : Option Addr) (hn : ¬ (0 <= keep /\ keep <= 65535 /\ 0 <= now)) :
  Calls Tryz.prog 24 #[.pointer (some ⟨S.p, 0, none⟩), .bool clean, .int .i64 keep, .pointer a, .int .i64 now] w fun e w' => e = .returned (.int .i64 2) /\ w = w' := by
 have CN := hid (ses_none h)
 rcases Int.lt_or_le keep 0 with h1 | h1
 ·have d1 : decide (keep < 0) = true := decide_eq_true h1
  go_enter Tryz.func24, Tryz.ntmps24
  go_wp2_with (go_at_call 60; refine CN.out.mono ?_; rintro e w1 ⟨rfl, rfl⟩)
  go_ret
  exact ⟨rfl, rfl⟩
 have d1 : decide (keep < 0) = false := decide_eq_false (by omega)
 rcases Int.lt_or_le 65535 keep with h2 | h2
 ·have d2 : decide (65535 < keep) = true := decide_eq_true h2
  go_enter Tryz.func24, Tryz.ntmps24
  go_wp2_with (go_at_call 60; refine CN.out.mono ?_; rintro e w1 ⟨rfl, rfl⟩)
  go_ret
  exact ⟨rfl, rfl⟩
 have d2 : decide (65535 < keep) = false := decide_eq_false (by omega)
 have d3 : decide (now < 0) = true := decide_eq_true (by omega)
 go_enter Tryz.func24, Tryz.ntmps24
 go_wp2_with (go_at_call 60; refine CN.out.mono ?_; rintro e w1 ⟨rfl, rfl⟩)
 go_ret
 exact ⟨rfl, rfl⟩
theorem ses_On_nil {w : World} {B : Nat} {S : XLay} {x : XS} (h : XB w B S x) (clean : Bool) (keep now : Int) (hn : 0 <= keep /\ keep <= 65535 /\ 0 <= now) :
  Calls Tryz.prog 24 #[.pointer (some ⟨S.p, 0, none⟩), .bool clean, .int .i64 keep, .pointer none, .int .i64 now] w fun e w' => e = .returned (.int .i64 0) /\
   XB w' B { S with wv := none } { x with clean := clean, on := true, keep := keep, heard := now, will := none } /\ Stp S.foot (XLay.foot { S with wv := none }) w w' := by
 have CN := hid (ses_none h)
 have d1 : decide (keep < 0) = false := decide_eq_false (by omega)
 have d2 : decide (65535 < keep) = false := decide_eq_false (by omega)
 have d3 : decide (now < 0) = false := decide_eq_false (by omega)
 have H := hid h;clear h;go_enter Tryz.func24, Tryz.ntmps24
 go_wp2_with (first
  | (go_at_call 60; refine CN.out.mono ?_; rintro e w1 ⟨rfl, rfl⟩)
  | (refine wpList_store_cell rfl 4 132 _ _ rfl (fun w => by kernel_rfl) S.p 8 _ _ rfl rfl H.out.box (by simp [XLay.cells]) rfl rfl ?_; intro w2 hb2 hw2)
  | (refine wpList_store_cell rfl 4 132 _ _ rfl (fun w => by kernel_rfl) S.p 7 _ _ rfl rfl hb2 (by simp [XLay.cells]) rfl rfl ?_; intro w3 hb3 hw3)
  | (refine wpList_store_cell rfl 2 132 _ _ rfl (fun w => by kernel_rfl) S.p 9 _ _ rfl rfl hb3 (by simp [XLay.cells]) rfl rfl ?_; intro w4 hb4 hw4)
  | (refine wpList_store_cell rfl 2 132 _ _ rfl (fun w => by kernel_rfl) S.p 10 _ _ rfl rfl hb4 (by simp [XLay.cells]) rfl rfl ?_; intro w5 hb5 hw5)
  | (refine wpList_store_cell rfl 72 132 _ _ rfl (fun w => by kernel_rfl) S.p 11 _ _ rfl rfl hb5 (by simp [XLay.cells]) rfl rfl ?_; intro w6 hb6 hw6))
 go_ret
 have hw := (((hw2.trans hw3).trans hw4).trans hw5).trans hw6
 exact ⟨rfl, H.out.rebox none clean true keep now none ⟨hn.1, hn.2.1⟩ hw hb6 trivial (by simp), ⟨hw.sub (by simp [XLay.foot, XLay.own]), fun y hy => .inl (foot_less y hy)⟩⟩
theorem ses_On_bad {w : World} {B : Nat} {S : XLay} {x : XS} (h : XB w B S x) (clean : Bool) (keep now : Int) (b : Nat) (v : WillV) (hv : Blk w b v.vals 67) (hn : 0 <= keep /\ keep <= 65535 /\ 0 <= now) (ht : v.topic.length <= 1000000) (hm : v.may = false) :
  Calls Tryz.prog 24 #[.pointer (some ⟨S.p, 0, none⟩), .bool clean, .int .i64 keep, .pointer (some ⟨b, 0, none⟩), .int .i64 now] w fun e w' => e = .returned (.int .i64 2) /\ Below w.heap.size w w' := by
 obtain ⟨topic, body, qos, retain⟩ := v
 dsimp only at ht
 have CN := hid (ses_none h)
 have d1 : decide (keep < 0) = false := decide_eq_false (by omega)
 have d2 : decide (65535 < keep) = false := decide_eq_false (by omega)
 have d3 : decide (now < 0) = false := decide_eq_false (by omega)
 have CT := hid (topic_Name topic w (by omega) (anyOK topic (by omega)))
 have c0 : w.cell? ⟨b, 0, none⟩ = some (.string ⟨topic.toArray⟩) := hv.cell 0
 have HV := hid hv;have hsz : ByteArray.size ⟨body.toArray⟩ = body.length := by simp [ByteArray.size]
 unfold WillV.may at hm
 dsimp only at hm
 clear ht h hv;cases hnm : nameR topic
 ·rw [hnm] at CT
  clear hm hnm;go_enter Tryz.func24, Tryz.ntmps24
  go_wp2_with (first
   | (go_at_call 60; refine CN.out.mono ?_; rintro e w1 ⟨rfl, rfl⟩)
   | (go_at_call 63; refine CT.out.mono ?_; rintro e w2 ⟨rfl, hb2⟩))
  go_ret
  exact ⟨rfl, hb2⟩
 rw [hnm] at CT hm
 have hr : (decide (2000 < (body.length : Int)) = true) \/ (decide (2000 < (body.length : Int)) = false /\ decide (qos < 0) = true) \/ (decide (2000 < (body.length : Int)) = false /\ decide (qos < 0) = false /\ decide (2 < qos) = true) := by
  simp at hm ⊢
  omega
 clear hm hnm;rcases hr with e1 | ⟨e1, e2⟩ | ⟨e1, e2, e3⟩
 ·skip
  go_enter Tryz.func24, Tryz.ntmps24
  go_wp2_with (first
   | (go_at_call 60; refine CN.out.mono ?_; rintro e w1 ⟨rfl, rfl⟩)
   | (go_at_call 63; refine CT.out.mono ?_; rintro e w2 ⟨rfl, hb2⟩; have q1 : w2.cell? ⟨b, 1, none⟩ = some (.string ⟨body.toArray⟩) := (HV.out.below hb2).cell 1; have q2 : w2.cell? ⟨b, 2, none⟩ = some (.int .i64 qos) := (HV.out.below hb2).cell 2))
  go_ret
  exact ⟨rfl, hb2⟩
 ·skip
  go_enter Tryz.func24, Tryz.ntmps24
  go_wp2_with (first
   | (go_at_call 60; refine CN.out.mono ?_; rintro e w1 ⟨rfl, rfl⟩)
   | (go_at_call 63; refine CT.out.mono ?_; rintro e w2 ⟨rfl, hb2⟩; have q1 : w2.cell? ⟨b, 1, none⟩ = some (.string ⟨body.toArray⟩) := (HV.out.below hb2).cell 1; have q2 : w2.cell? ⟨b, 2, none⟩ = some (.int .i64 qos) := (HV.out.below hb2).cell 2))
  go_ret
  exact ⟨rfl, hb2⟩
 ·skip
  go_enter Tryz.func24, Tryz.ntmps24
  go_wp2_with (first
   | (go_at_call 60; refine CN.out.mono ?_; rintro e w1 ⟨rfl, rfl⟩)
   | (go_at_call 63; refine CT.out.mono ?_; rintro e w2 ⟨rfl, hb2⟩; have q1 : w2.cell? ⟨b, 1, none⟩ = some (.string ⟨body.toArray⟩) := (HV.out.below hb2).cell 1; have q2 : w2.cell? ⟨b, 2, none⟩ = some (.int .i64 qos) := (HV.out.below hb2).cell 2))
  go_ret
  exact ⟨rfl, hb2⟩
theorem ses_On_will {w : World} {B : Nat} {S : XLay} {x : XS} (h : XB w B S x) (clean : Bool) (keep now : Int) (b : Nat) (v : WillV) (hv : Blk w b v.vals 67) (hn : 0 <= keep /\ keep <= 65535 /\ 0 <= now) (ht : v.topic.length <= 1000000) (hm : v.may = true) :
  Calls Tryz.prog 24 #[.pointer (some ⟨S.p, 0, none⟩), .bool clean, .int .i64 keep, .pointer (some ⟨b, 0, none⟩), .int .i64 now] w fun e w' => ∃ wb, e = .returned (.int .i64 0) /\ w.heap.size <= wb /\ 
   XB w' B { S with wv := some wb } { x with clean := clean, on := true, keep := keep, heard := now, will := some v } /\ Wrote S.foot w w' := by
 have hbS : b ∉ [S.p] := by simp only [List.mem_singleton]; exact Blk.ne hv h.box (by decide)
 obtain ⟨topic, body, qos, retain⟩ := v
 dsimp only at ht
 have CN := hid (ses_none h)
 have d1 : decide (keep < 0) = false := decide_eq_false (by omega)
 have d2 : decide (65535 < keep) = false := decide_eq_false (by omega)
 have d3 : decide (now < 0) = false := decide_eq_false (by omega)
 have CT := hid (topic_Name topic w (by omega) (anyOK topic (by omega)))
 have c0 : w.cell? ⟨b, 0, none⟩ = some (.string ⟨topic.toArray⟩) := hv.cell 0
 have HV := hid hv;have H := hid h;have hsz : ByteArray.size ⟨body.toArray⟩ = body.length := by simp [ByteArray.size]
 unfold WillV.may at hm
 dsimp only at hm
 simp only [Bool.and_eq_true, decide_eq_true_eq] at hm
 obtain ⟨⟨hnm, hbo⟩, hq1, hq2⟩ := hm
 rw [hnm] at CT
 have e1 : decide (2000 < (body.length : Int)) = false := decide_eq_false (by omega)
 have e2 : decide (qos < 0) = false := decide_eq_false (by omega)
 have e3 : decide (2 < qos) = false := decide_eq_false (by omega)
 clear ht h hv hbo hq1 hq2 hnm;go_enter Tryz.func24, Tryz.ntmps24
 go_wp2_with (first
  | (go_at_call 60; refine CN.out.mono ?_; rintro e w1 ⟨rfl, rfl⟩)
  | (go_at_call 63; refine CT.out.mono ?_; rintro e v2 ⟨rfl, hbT⟩; have q1 : v2.cell? ⟨b, 1, none⟩ = some (.string ⟨body.toArray⟩) := (HV.out.below hbT).cell 1; have q2 : v2.cell? ⟨b, 2, none⟩ = some (.int .i64 qos) := (HV.out.below hbT).cell 2)
  | (refine wpList_store_cell rfl 4 132 _ _ rfl (fun w => by kernel_rfl) S.p 8 _ _ rfl rfl (H.out.box.below hbT) (by simp [XLay.cells]) rfl rfl ?_; intro w2 hb2 hw2)
  | (refine wpList_store_cell rfl 4 132 _ _ rfl (fun w => by kernel_rfl) S.p 7 _ _ rfl rfl hb2 (by simp [XLay.cells]) rfl rfl ?_; intro w3 hb3 hw3)
  | (refine wpList_store_cell rfl 2 132 _ _ rfl (fun w => by kernel_rfl) S.p 9 _ _ rfl rfl hb3 (by simp [XLay.cells]) rfl rfl ?_; intro w4 hb4 hw4)
  | (refine wpList_store_cell rfl 2 132 _ _ rfl (fun w => by kernel_rfl) S.p 10 _ _ rfl rfl hb4 (by simp [XLay.cells]) rfl rfl ?_; intro w5 hb5 hw5)
  | (refine wpList_store_cell rfl 72 132 _ _ rfl (fun w => by kernel_rfl) S.p 11 _ _ rfl rfl hb5 (by simp [XLay.cells]) rfl rfl ?_; intro w6 hb6 hw6; have hw26 := hid ((((hw2.trans hw3).trans hw4).trans hw5).trans hw6))
  | (refine wpList_load_blk rfl 67 _ rfl b (WillV.vals ⟨topic, body, qos, retain⟩) rfl ((HV.out.below hbT).wrote hw26.out hbS) Tryz.underlying67 rfl (by kernel_rfl) ?_)
  | (refine wS 67 4 rfl w6.heap.size _ (WillV.vals ⟨topic, body, qos, retain⟩) rfl rfl (Blk.new w6 _ _) rfl rfl (by simp [Value.oneCell', WillV.vals]) ?_; intro w7 hb7 hw7; have hbox7 := (hb6.alloc _).wrote hw7 (fun hh => by have := hb6.lt; simp only [List.mem_singleton] at hh; omega))
  | (refine wpList_store_cell rfl 72 132 _ _ rfl (fun w => by kernel_rfl) S.p 11 _ _ rfl rfl hbox7 (by simp [XLay.cells]) rfl rfl ?_; intro w8 hb8 hw8))
 go_ret
 have hT := hbT.size
 have h26 := hw26.out.size
 have hall : Wrote [S.p] v2 w8 := ((hw26.out.trans (Wrote.alloc _ _ _)).andNew hw7 (by simp; omega)).trans hw8
 have hwp : w6.heap.size ∉ [S.p] := by have := hb6.lt; simp only [List.mem_singleton]; omega
 refine ⟨w6.heap.size, rfl, by omega, (H.out.below hbT).rebox (some w6.heap.size) clean true keep now (some ⟨topic, body, qos, retain⟩) ⟨hn.1, hn.2.1⟩ hall hb8 ?_ (by simp; omega), ?_⟩
 ·exact hb7.wrote hw8 hwp
 ·exact ((Wrote.of_below hbT).trans hall).sub (by simp [XLay.foot, XLay.own])
end
end Go.Proofs.YtoinabapaeebfaaGreatDoor
