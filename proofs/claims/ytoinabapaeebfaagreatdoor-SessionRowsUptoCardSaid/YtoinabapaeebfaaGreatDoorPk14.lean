/- Parts of the proof of SessionRows: contracts of functions that it reaches, and plain lemmas. No condition of their own. -/
import Derived.Test.YtoinabapaeebfaaGreatDoorPk13
import Derived.Test.YtoinabapaeebfaaGreatDoorPk04
import Derived.Test.YtoinabapaeebfaaGreatDoorPk05
set_option linter.unusedSimpArgs false
set_option linter.unusedVariables false
set_option maxRecDepth 100000
set_option maxHeartbeats 8000000
namespace Go.Proofs.YtoinabapaeebfaaGreatDoor
open Go.RowKit Go.Shelf
section
def mostN (k : Nat) : Int := if k = 1 then 128 else if k = 2 then 224 else if k = 3 then 240 else 248
def leadN (k : Nat) : Int := if k = 1 then 0 else if k = 2 then 192 else if k = 3 then 224 else 240
theorem encR_first (v : Nat) (h : v <= 1114111) : ∃ y : Nat, (encR v)[0]? = some (b8 y) /\ y < 256 /\ leadN (lenR v) <= y /\ y < mostN (lenR v) := by
 unfold encR lenR leadN mostN
 by_cases h1 : v < 128
 ·exact ⟨v, by simp [h1], by omega, by simp [h1], by simp [h1]; omega⟩
 ·by_cases h2 : v < 2048
  ·exact ⟨192 + v / 64, by simp [h1, h2], by omega, by simp [h1, h2]; omega, by simp [h1, h2]; omega⟩
  ·by_cases h3 : v < 65536
   ·exact ⟨224 + v / 4096, by simp [h1, h2, h3], by omega, by simp [h1, h2, h3]; omega, by simp [h1, h2, h3]; omega⟩
   ·exact ⟨240 + v / 262144, by simp [h1, h2, h3], by omega, by simp [h1, h2, h3]; omega, by simp [h1, h2, h3]; omega⟩
theorem okR_lead (k : Nat) (s : List UInt8) (h : okR k s = true) : leadN k <= at8 s 0 /\ (at8 s 0 : Int) < mostN k := by
 obtain ⟨h1, h2, h3, h4⟩ := (okR_iff k s).1 h
 have h5 := okR_len h
 have h6 := (mayR_iff _).1 h3
 obtain ⟨y, g1, g2, g3, g4⟩ := encR_first (valR k s) (by omega)
 rw [h5] at g3 g4
 have hk := (lenR_bd (valR k s)).1
 rw [h5] at hk
 rw [h4, List.getElem?_take_of_lt (by omega)] at g1
 have h7 : at8 s 0 = y := by unfold at8; rw [g1]; exact b8_nat y g2
 rw [h7]
 exact ⟨g3, g4⟩
theorem accV_zero (k : Nat) (s : List UInt8) (h1 : 1 <= k) (h4 : k <= 4) (hl : leadN k <= at8 s 0) (hm : (at8 s 0 : Int) < mostN k) : (at8 s 0 : Int) - leadN k = accV k s 0 := by
 unfold leadN mostN at *
 simp only [accV, mdR]
 rcases (show k = 1 \/ k = 2 \/ k = 3 \/ k = 4 by omega) with rfl | rfl | rfl | rfl <;> simp at hl hm ⊢ <;> omega
theorem ref_May_is (r : Int) (b : Bool) (h : mayR r = b) (w : World) : Calls Tryz.prog 208 #[.int .i32 r] w fun e w' => e = .returned (.bool b) /\ w = w' := h ▸ ref_May r w
theorem firstF_at (k : Nat) (s : List UInt8) (h1 : 1 <= k) (h4 : k <= 4) (hno : ∀ j, 1 <= j -> j < k -> okR j s = false) (h : okR k s = true) : firstF s = (valR k s, k) := by
 unfold firstF
 rcases (show k = 1 \/ k = 2 \/ k = 3 \/ k = 4 by omega) with rfl | rfl | rfl | rfl
 ·simp [h]
 ·simp [h, hno 1]
 ·simp [h, hno 1, hno 2]
 ·simp [h, hno 1, hno 2, hno 3]
theorem ref_First (s : List UInt8) (w : World) (hs : s.length <= 140737488355328) :
  Calls Tryz.prog 183 #[.string ⟨s.toArray⟩] w fun e w' => e = .returned (.tuple #[.int .i32 (firstF s).1, .int .i64 (firstF s).2]) /\ Below w.heap.size w w' := by
 have hsz : ByteArray.size ⟨s.toArray⟩ = s.length := by simp [ByteArray.size]
 go_enter Tryz.func183, Tryz.ntmps183
 go_wp2
 go_loopw [4, 5, 6, 7, 8, 9] (fun n _ _ _ _ _ wr => ∃ (k : Nat), 1 <= k /\ k <= 5 /\ n = .int .i64 k /\ Hid (∀ j, 1 <= j -> j < k -> okR j s = false) /\ Below w.heap.size w wr) (fun n _ _ _ _ _ _ => 5 - (intOf n).toNat)
 case atStart => exact ⟨1, by omega, by omega, rfl, fun j h1 h2 => by omega, Below.refl _ _⟩
 case round =>
  obtain ⟨k, hk1, hk5, rfl, hj, hbel⟩ := hrel
  by_cases hin : k <= 4 /\ k <= s.length
  ·obtain ⟨hk4, hlen⟩ := hin
   have hx0 : ∀ W, (Instr.index 9 (.string ⟨s.toArray⟩) (.int .i64 0)).run Tryz.prog W = .ok (.int .u8 (at8 s 0)) W := fun W => str_idx s 0 (by omega) W
   obtain ⟨z, hz⟩ : ∃ z : Int, z = at8 s 0 := ⟨_, rfl⟩
   rw [<- hz] at hx0
   have z0 : 0 <= z := by omega
   have z1 : z < 256 := by have := at8_lt s 0; omega
   have HZ := hid hz;clear hz
   have next : okR k s = false -> ∀ j, 1 <= j -> j < k + 1 -> okR j s = false := fun h j h1 h2 => by
    rcases Nat.lt_or_ge j k with h3 | h3
    ·exact hj.out j h1 h3
    ·obtain rfl : j = k := by omega
     exact h
   have NX := hid next;clear next;have OL := hid (okR_lead k s)
   have AZ := hid (accV_zero k s hk1 hk4)
   rw [<- HZ.out] at OL AZ
   have hcases : (((k : Int) == 2) = false /\ ((k : Int) == 3) = false /\ ((k : Int) == 4) = false /\ leadN k = 0 /\ mostN k = 128) \/
     (((k : Int) == 2) = true /\ ((k : Int) == 3) = false /\ ((k : Int) == 4) = false /\ leadN k = 192 /\ mostN k = 224) \/
     (((k : Int) == 2) = false /\ ((k : Int) == 3) = true /\ ((k : Int) == 4) = false /\ leadN k = 224 /\ mostN k = 240) \/
     (((k : Int) == 2) = false /\ ((k : Int) == 3) = false /\ ((k : Int) == 4) = true /\ leadN k = 240 /\ mostN k = 248) := by
    rcases (show k = 1 \/ k = 2 \/ k = 3 \/ k = 4 by omega) with rfl | rfl | rfl | rfl
    ·exact .inl ⟨rfl, rfl, rfl, rfl, rfl⟩
    ·exact .inr (.inl ⟨rfl, rfl, rfl, rfl, rfl⟩)
    ·exact .inr (.inr (.inl ⟨rfl, rfl, rfl, rfl, rfl⟩))
    ·exact .inr (.inr (.inr ⟨rfl, rfl, rfl, rfl, rfl⟩))
   rcases hcases with ⟨e2, e3, e4, hL, hM⟩ | ⟨e2, e3, e4, hL, hM⟩ | ⟨e2, e3, e4, hL, hM⟩ | ⟨e2, e3, e4, hL, hM⟩
   all_goals
    rw [hL] at OL AZ
    rw [hM] at OL AZ
    clear hL hM
   ·skip
    have d1 : decide (z < 0) = false := decide_eq_false (by omega)
    by_cases c2 : 128 <= z
    ·have d2 : decide (128 <= z) = true := decide_eq_true c2
     go_wp2
     go_roundw
     case rel => exact ⟨k + 1, by omega, by omega, by go_num, NX.out (Bool.eq_false_iff.2 fun h => by have := OL.out h; omega), hbel⟩
     case measure => simp [intOf]; omega
    have d2 : decide (128 <= z) = false := decide_eq_false c2
    have HQ := hid (AZ.out (by omega) (by omega))
    clear AZ OL;go_wp2
    go_loop [8, 9] (fun r i => ∃ (j : Nat) (q : Int), 1 <= j /\ j <= k /\ i = .int .i64 j /\ r = .int .i32 q /\ 0 <= q /\ q < 67108864 /\ Hid (q = accV k s (j - 1))) (fun _ i => k - (intOf i).toNat)
    case atStart => exact ⟨1, z, by omega, hk1, rfl, rfl, by omega, by omega, hid (by have := HQ.out; simpa using this)⟩
    case round =>
     obtain ⟨j, q, hj1, hjk, rfl, rfl, hq0, hq1, HA⟩ := hrel
     clear hx0 e2 e3 e4 d1 d2;by_cases hjl : j < k
     ·have hx : ∀ W, (Instr.index 9 (.string ⟨s.toArray⟩) (.int .i64 j)).run Tryz.prog W = .ok (.int .u8 (at8 s j)) W := fun W => str_idx s j (by omega) W
      have hv2 := accV_lt k s j (by omega)
      have hrec : accV k s j = accV k s (j - 1) * 64 + at8 s j % 64 := by
       obtain ⟨j', rfl⟩ : ∃ j', j = j' + 1 := ⟨j - 1, by omega⟩
       rfl
      obtain ⟨y, hy⟩ : ∃ y : Int, y = at8 s j := ⟨_, rfl⟩
      rw [<- hy] at hx
      have y0 : 0 <= y := by omega
      have y1 : y < 256 := by have := at8_lt s j; omega
      have hq64 : 64 * q + y % 64 < 67108864 := by have := HA.out; omega
      have HN := hid (show 64 * q + y % 64 = accV k s (j + 1 - 1) by rw [Nat.add_sub_cancel]; have := HA.out; omega)
      clear hy hrec hv2;go_wp2
      go_round
      case rel => exact ⟨j + 1, 64 * q + y % 64, by omega, by omega, by go_num, rfl, by omega, hq64, HN.out⟩
      case measure => simp [intOf]; omega
     ·obtain rfl : j = k := by omega
      clear HQ HZ;have hqv : q = (valR j s : Int) := by rw [HA.out, accV_val j s hj1 hk4]
      clear HA;have hok := okR_iff j s
      have hvl := valR_lt j s
      generalize hvv : valR j s = v at *
      have HV := hid hvv;clear hvv;have CR := hid (fun W h => ref_Raw v W h)
      rw [<- hqv] at CR
      have CM := hid (fun b (h : mayR q = b) W => ref_May_is q b h W)
      have hct2 := fun W => str_to s j hlen W
      have HK := hid hok;have HQV := hid hqv;clear hok hqv hvl;by_cases hq : q = 0
      ·have dq : decide (0 < q) = false := decide_eq_false (by omega)
       have HQ0 := hid hq;clear hq;go_wp2
       refine regionQ [] (by kernel_rfl) trivial fun KQ hKQ => ?_
       refine tQ [0, 1, 2] ?_;refine uQ 3 ?_;refine uQ 4 ?_;refine tQ [5, 6] ?_;refine uQ 7 ?_;refine uQ 8 ?_;refine uQ 9 ?_;refine uQ 10 ?_;refine uQ 11 ?_;refine uQ 12 ?_;refine tQ [13] ?_;refine dQ (hKQ.out _ _ ?_);clear hKQ KQ;go_wp2
       go_roundw
       case rel => exact ⟨j + 1, by omega, by omega, by go_num, NX.out (Bool.eq_false_iff.2 fun h => (HK.out.1 h).2.1 (by have := HQV.out; have := HQ0.out; omega)), hbel.drew⟩
       case measure => simp [intOf]; omega
      have dq : decide (0 < q) = true := decide_eq_true (by omega)
      go_wp2
      refine regionQ [] (by kernel_rfl) trivial fun KQ hKQ => ?_
      refine tQ [0, 1, 2, 3] ?_;refine sN 4 fun K hK => ?_;simp only [GO];go_simp;cases hmy : mayR q
      ·refine (CM.out _ hmy _).mono ?_
       rintro e w5 ⟨rfl, rfl⟩
       refine hK _ _ ?_;clear hK K;try simp only [PT]
       refine tQ [5, 6] ?_;refine uQ 7 ?_;refine uQ 8 ?_;refine uQ 9 ?_;refine uQ 10 ?_;refine uQ 11 ?_;refine uQ 12 ?_;refine tQ [13] ?_;refine dQ (hKQ.out _ _ ?_);clear hKQ KQ;go_wp2
       go_roundw
       case rel => exact ⟨j + 1, by omega, by omega, by go_num, NX.out (Bool.eq_false_iff.2 fun h => by have h1 := (HK.out.1 h).2.2.1; rw [<- HQV.out, hmy] at h1; cases h1), hbel.drew⟩
       case measure => simp [intOf]; omega
      ·refine (CM.out _ hmy _).mono ?_
       rintro e w5 ⟨rfl, rfl⟩
       refine hK _ _ ?_;clear hK K;try simp only [PT]
       refine tQ [5, 6, 7, 9, 10, 11] ?_;refine sN 8 fun K hK => ?_;simp only [GO];go_simp;refine (CR.out _ (by have := (mayR_iff q).1 hmy; have := HQV.out; omega)).mono ?_
       rintro e w6 ⟨rfl, hb6⟩
       have hbel6 := hbel.drew.trans (hb6.mono hbel.drew.size)
       refine hK _ _ ?_;clear hK K;try simp only [PT]
       by_cases hE : encR v = s.take j
       ·rw [hE]
        refine tQ [12, 13] ?_;refine dQ (hKQ.out _ _ ?_);clear hKQ KQ;go_wp2
        refine bodyPost_ret (v := .tuple #[.int .i32 q, .int .i64 j]) (by simp [results, Tryz.results183, go_sem]) rfl ⟨?_, hbel6⟩
        have hokk : okR j s = true := HK.out.2 ⟨hlen, by have := HQV.out; omega, by rw [<- HQV.out]; exact hmy, hE⟩
        rw [firstF_at j s hk1 hk4 hj.out hokk, HV.out, HQV.out]
       ·have hE2 : ((⟨(encR v).toArray⟩ : ByteArray).toList == (⟨(s.take j).toArray⟩ : ByteArray).toList) = false := by
         rw [ByteArray.toList_eq, ByteArray.toList_eq]
         simpa using hE
        have hE3 : (encR v == s.take j) = false := by simpa using hE
        refine tQ [12, 13] ?_;refine dQ (hKQ.out _ _ ?_);clear hKQ KQ;go_wp2
        go_roundw
        case rel => exact ⟨j + 1, by omega, by omega, by go_num, NX.out (Bool.eq_false_iff.2 fun h => hE (HK.out.1 h).2.2.2), hbel6⟩
        case measure => simp [intOf]; omega
   ·skip
    by_cases c1 : z < 192
    ·have d1 : decide (z < 192) = true := decide_eq_true c1
     go_wp2
     go_roundw
     case rel => exact ⟨k + 1, by omega, by omega, by go_num, NX.out (Bool.eq_false_iff.2 fun h => by have := OL.out h; omega), hbel⟩
     case measure => simp [intOf]; omega
    have d1 : decide (z < 192) = false := decide_eq_false c1
    by_cases c2 : 224 <= z
    ·have d2 : decide (224 <= z) = true := decide_eq_true c2
     go_wp2
     go_roundw
     case rel => exact ⟨k + 1, by omega, by omega, by go_num, NX.out (Bool.eq_false_iff.2 fun h => by have := OL.out h; omega), hbel⟩
     case measure => simp [intOf]; omega
    have d2 : decide (224 <= z) = false := decide_eq_false c2
    have HQ := hid (AZ.out (by omega) (by omega))
    clear AZ OL;go_wp2
    go_loop [8, 9] (fun r i => ∃ (j : Nat) (q : Int), 1 <= j /\ j <= k /\ i = .int .i64 j /\ r = .int .i32 q /\ 0 <= q /\ q < 67108864 /\ Hid (q = accV k s (j - 1))) (fun _ i => k - (intOf i).toNat)
    case atStart => exact ⟨1, z - 192, by omega, hk1, rfl, rfl, by omega, by omega, hid (by have := HQ.out; simpa using this)⟩
    case round =>
     obtain ⟨j, q, hj1, hjk, rfl, rfl, hq0, hq1, HA⟩ := hrel
     clear hx0 e2 e3 e4 d1 d2;by_cases hjl : j < k
     ·have hx : ∀ W, (Instr.index 9 (.string ⟨s.toArray⟩) (.int .i64 j)).run Tryz.prog W = .ok (.int .u8 (at8 s j)) W := fun W => str_idx s j (by omega) W
      have hv2 := accV_lt k s j (by omega)
      have hrec : accV k s j = accV k s (j - 1) * 64 + at8 s j % 64 := by
       obtain ⟨j', rfl⟩ : ∃ j', j = j' + 1 := ⟨j - 1, by omega⟩
       rfl
      obtain ⟨y, hy⟩ : ∃ y : Int, y = at8 s j := ⟨_, rfl⟩
      rw [<- hy] at hx
      have y0 : 0 <= y := by omega
      have y1 : y < 256 := by have := at8_lt s j; omega
      have hq64 : 64 * q + y % 64 < 67108864 := by have := HA.out; omega
      have HN := hid (show 64 * q + y % 64 = accV k s (j + 1 - 1) by rw [Nat.add_sub_cancel]; have := HA.out; omega)
      clear hy hrec hv2;go_wp2
      go_round
      case rel => exact ⟨j + 1, 64 * q + y % 64, by omega, by omega, by go_num, rfl, by omega, hq64, HN.out⟩
      case measure => simp [intOf]; omega
     ·obtain rfl : j = k := by omega
      clear HQ HZ;have hqv : q = (valR j s : Int) := by rw [HA.out, accV_val j s hj1 hk4]
      clear HA;have hok := okR_iff j s
      have hvl := valR_lt j s
      generalize hvv : valR j s = v at *
      have HV := hid hvv;clear hvv;have CR := hid (fun W h => ref_Raw v W h)
      rw [<- hqv] at CR
      have CM := hid (fun b (h : mayR q = b) W => ref_May_is q b h W)
      have hct2 := fun W => str_to s j hlen W
      have HK := hid hok;have HQV := hid hqv;clear hok hqv hvl;by_cases hq : q = 0
      ·have dq : decide (0 < q) = false := decide_eq_false (by omega)
       have HQ0 := hid hq;clear hq;go_wp2
       refine regionQ [] (by kernel_rfl) trivial fun KQ hKQ => ?_
       refine tQ [0, 1, 2] ?_;refine uQ 3 ?_;refine uQ 4 ?_;refine tQ [5, 6] ?_;refine uQ 7 ?_;refine uQ 8 ?_;refine uQ 9 ?_;refine uQ 10 ?_;refine uQ 11 ?_;refine uQ 12 ?_;refine tQ [13] ?_;refine dQ (hKQ.out _ _ ?_);clear hKQ KQ;go_wp2
       go_roundw
       case rel => exact ⟨j + 1, by omega, by omega, by go_num, NX.out (Bool.eq_false_iff.2 fun h => (HK.out.1 h).2.1 (by have := HQV.out; have := HQ0.out; omega)), hbel.drew⟩
       case measure => simp [intOf]; omega
      have dq : decide (0 < q) = true := decide_eq_true (by omega)
      go_wp2
      refine regionQ [] (by kernel_rfl) trivial fun KQ hKQ => ?_
      refine tQ [0, 1, 2, 3] ?_;refine sN 4 fun K hK => ?_;simp only [GO];go_simp;cases hmy : mayR q
      ·refine (CM.out _ hmy _).mono ?_
       rintro e w5 ⟨rfl, rfl⟩
       refine hK _ _ ?_;clear hK K;try simp only [PT]
       refine tQ [5, 6] ?_;refine uQ 7 ?_;refine uQ 8 ?_;refine uQ 9 ?_;refine uQ 10 ?_;refine uQ 11 ?_;refine uQ 12 ?_;refine tQ [13] ?_;refine dQ (hKQ.out _ _ ?_);clear hKQ KQ;go_wp2
       go_roundw
       case rel => exact ⟨j + 1, by omega, by omega, by go_num, NX.out (Bool.eq_false_iff.2 fun h => by have h1 := (HK.out.1 h).2.2.1; rw [<- HQV.out, hmy] at h1; cases h1), hbel.drew⟩
       case measure => simp [intOf]; omega
      ·refine (CM.out _ hmy _).mono ?_
       rintro e w5 ⟨rfl, rfl⟩
       refine hK _ _ ?_;clear hK K;try simp only [PT]
       refine tQ [5, 6, 7, 9, 10, 11] ?_;refine sN 8 fun K hK => ?_;simp only [GO];go_simp;refine (CR.out _ (by have := (mayR_iff q).1 hmy; have := HQV.out; omega)).mono ?_
       rintro e w6 ⟨rfl, hb6⟩
       have hbel6 := hbel.drew.trans (hb6.mono hbel.drew.size)
       refine hK _ _ ?_;clear hK K;try simp only [PT]
       by_cases hE : encR v = s.take j
       ·rw [hE]
        refine tQ [12, 13] ?_;refine dQ (hKQ.out _ _ ?_);clear hKQ KQ;go_wp2
        refine bodyPost_ret (v := .tuple #[.int .i32 q, .int .i64 j]) (by simp [results, Tryz.results183, go_sem]) rfl ⟨?_, hbel6⟩
        have hokk : okR j s = true := HK.out.2 ⟨hlen, by have := HQV.out; omega, by rw [<- HQV.out]; exact hmy, hE⟩
        rw [firstF_at j s hk1 hk4 hj.out hokk, HV.out, HQV.out]
       ·have hE2 : ((⟨(encR v).toArray⟩ : ByteArray).toList == (⟨(s.take j).toArray⟩ : ByteArray).toList) = false := by
         rw [ByteArray.toList_eq, ByteArray.toList_eq]
         simpa using hE
        have hE3 : (encR v == s.take j) = false := by simpa using hE
        refine tQ [12, 13] ?_;refine dQ (hKQ.out _ _ ?_);clear hKQ KQ;go_wp2
        go_roundw
        case rel => exact ⟨j + 1, by omega, by omega, by go_num, NX.out (Bool.eq_false_iff.2 fun h => hE (HK.out.1 h).2.2.2), hbel6⟩
        case measure => simp [intOf]; omega
   ·skip
    by_cases c1 : z < 224
    ·have d1 : decide (z < 224) = true := decide_eq_true c1
     go_wp2
     go_roundw
     case rel => exact ⟨k + 1, by omega, by omega, by go_num, NX.out (Bool.eq_false_iff.2 fun h => by have := OL.out h; omega), hbel⟩
     case measure => simp [intOf]; omega
    have d1 : decide (z < 224) = false := decide_eq_false c1
    by_cases c2 : 240 <= z
    ·have d2 : decide (240 <= z) = true := decide_eq_true c2
     go_wp2
     go_roundw
     case rel => exact ⟨k + 1, by omega, by omega, by go_num, NX.out (Bool.eq_false_iff.2 fun h => by have := OL.out h; omega), hbel⟩
     case measure => simp [intOf]; omega
    have d2 : decide (240 <= z) = false := decide_eq_false c2
    have HQ := hid (AZ.out (by omega) (by omega))
    clear AZ OL;go_wp2
    go_loop [8, 9] (fun r i => ∃ (j : Nat) (q : Int), 1 <= j /\ j <= k /\ i = .int .i64 j /\ r = .int .i32 q /\ 0 <= q /\ q < 67108864 /\ Hid (q = accV k s (j - 1))) (fun _ i => k - (intOf i).toNat)
    case atStart => exact ⟨1, z - 224, by omega, hk1, rfl, rfl, by omega, by omega, hid (by have := HQ.out; simpa using this)⟩
    case round =>
     obtain ⟨j, q, hj1, hjk, rfl, rfl, hq0, hq1, HA⟩ := hrel
     clear hx0 e2 e3 e4 d1 d2;by_cases hjl : j < k
     ·have hx : ∀ W, (Instr.index 9 (.string ⟨s.toArray⟩) (.int .i64 j)).run Tryz.prog W = .ok (.int .u8 (at8 s j)) W := fun W => str_idx s j (by omega) W
      have hv2 := accV_lt k s j (by omega)
      have hrec : accV k s j = accV k s (j - 1) * 64 + at8 s j % 64 := by
       obtain ⟨j', rfl⟩ : ∃ j', j = j' + 1 := ⟨j - 1, by omega⟩
       rfl
      obtain ⟨y, hy⟩ : ∃ y : Int, y = at8 s j := ⟨_, rfl⟩
      rw [<- hy] at hx
      have y0 : 0 <= y := by omega
      have y1 : y < 256 := by have := at8_lt s j; omega
      have hq64 : 64 * q + y % 64 < 67108864 := by have := HA.out; omega
      have HN := hid (show 64 * q + y % 64 = accV k s (j + 1 - 1) by rw [Nat.add_sub_cancel]; have := HA.out; omega)
      clear hy hrec hv2;go_wp2
      go_round
      case rel => exact ⟨j + 1, 64 * q + y % 64, by omega, by omega, by go_num, rfl, by omega, hq64, HN.out⟩
      case measure => simp [intOf]; omega
     ·obtain rfl : j = k := by omega
      clear HQ HZ;have hqv : q = (valR j s : Int) := by rw [HA.out, accV_val j s hj1 hk4]
      clear HA;have hok := okR_iff j s
      have hvl := valR_lt j s
      generalize hvv : valR j s = v at *
      have HV := hid hvv;clear hvv;have CR := hid (fun W h => ref_Raw v W h)
      rw [<- hqv] at CR
      have CM := hid (fun b (h : mayR q = b) W => ref_May_is q b h W)
      have hct2 := fun W => str_to s j hlen W
      have HK := hid hok;have HQV := hid hqv;clear hok hqv hvl;by_cases hq : q = 0
      ·have dq : decide (0 < q) = false := decide_eq_false (by omega)
       have HQ0 := hid hq;clear hq;go_wp2
       refine regionQ [] (by kernel_rfl) trivial fun KQ hKQ => ?_
       refine tQ [0, 1, 2] ?_;refine uQ 3 ?_;refine uQ 4 ?_;refine tQ [5, 6] ?_;refine uQ 7 ?_;refine uQ 8 ?_;refine uQ 9 ?_;refine uQ 10 ?_;refine uQ 11 ?_;refine uQ 12 ?_;refine tQ [13] ?_;refine dQ (hKQ.out _ _ ?_);clear hKQ KQ;go_wp2
       go_roundw
       case rel => exact ⟨j + 1, by omega, by omega, by go_num, NX.out (Bool.eq_false_iff.2 fun h => (HK.out.1 h).2.1 (by have := HQV.out; have := HQ0.out; omega)), hbel.drew⟩
       case measure => simp [intOf]; omega
      have dq : decide (0 < q) = true := decide_eq_true (by omega)
      go_wp2
      refine regionQ [] (by kernel_rfl) trivial fun KQ hKQ => ?_
      refine tQ [0, 1, 2, 3] ?_;refine sN 4 fun K hK => ?_;simp only [GO];go_simp;cases hmy : mayR q
      ·refine (CM.out _ hmy _).mono ?_
       rintro e w5 ⟨rfl, rfl⟩
       refine hK _ _ ?_;clear hK K;try simp only [PT]
       refine tQ [5, 6] ?_;refine uQ 7 ?_;refine uQ 8 ?_;refine uQ 9 ?_;refine uQ 10 ?_;refine uQ 11 ?_;refine uQ 12 ?_;refine tQ [13] ?_;refine dQ (hKQ.out _ _ ?_);clear hKQ KQ;go_wp2
       go_roundw
       case rel => exact ⟨j + 1, by omega, by omega, by go_num, NX.out (Bool.eq_false_iff.2 fun h => by have h1 := (HK.out.1 h).2.2.1; rw [<- HQV.out, hmy] at h1; cases h1), hbel.drew⟩
       case measure => simp [intOf]; omega
      ·refine (CM.out _ hmy _).mono ?_
       rintro e w5 ⟨rfl, rfl⟩
       refine hK _ _ ?_;clear hK K;try simp only [PT]
       refine tQ [5, 6, 7, 9, 10, 11] ?_;refine sN 8 fun K hK => ?_;simp only [GO];go_simp;refine (CR.out _ (by have := (mayR_iff q).1 hmy; have := HQV.out; omega)).mono ?_
       rintro e w6 ⟨rfl, hb6⟩
       have hbel6 := hbel.drew.trans (hb6.mono hbel.drew.size)
       refine hK _ _ ?_;clear hK K;try simp only [PT]
       by_cases hE : encR v = s.take j
       ·rw [hE]
        refine tQ [12, 13] ?_;refine dQ (hKQ.out _ _ ?_);clear hKQ KQ;go_wp2
        refine bodyPost_ret (v := .tuple #[.int .i32 q, .int .i64 j]) (by simp [results, Tryz.results183, go_sem]) rfl ⟨?_, hbel6⟩
        have hokk : okR j s = true := HK.out.2 ⟨hlen, by have := HQV.out; omega, by rw [<- HQV.out]; exact hmy, hE⟩
        rw [firstF_at j s hk1 hk4 hj.out hokk, HV.out, HQV.out]
       ·have hE2 : ((⟨(encR v).toArray⟩ : ByteArray).toList == (⟨(s.take j).toArray⟩ : ByteArray).toList) = false := by
         rw [ByteArray.toList_eq, ByteArray.toList_eq]
         simpa using hE
        have hE3 : (encR v == s.take j) = false := by simpa using hE
        refine tQ [12, 13] ?_;refine dQ (hKQ.out _ _ ?_);clear hKQ KQ;go_wp2
        go_roundw
        case rel => exact ⟨j + 1, by omega, by omega, by go_num, NX.out (Bool.eq_false_iff.2 fun h => hE (HK.out.1 h).2.2.2), hbel6⟩
        case measure => simp [intOf]; omega
   ·skip
    by_cases c1 : z < 240
    ·have d1 : decide (z < 240) = true := decide_eq_true c1
     go_wp2
     go_roundw
     case rel => exact ⟨k + 1, by omega, by omega, by go_num, NX.out (Bool.eq_false_iff.2 fun h => by have := OL.out h; omega), hbel⟩
     case measure => simp [intOf]; omega
    have d1 : decide (z < 240) = false := decide_eq_false c1
    by_cases c2 : 248 <= z
    ·have d2 : decide (248 <= z) = true := decide_eq_true c2
     go_wp2
     go_roundw
     case rel => exact ⟨k + 1, by omega, by omega, by go_num, NX.out (Bool.eq_false_iff.2 fun h => by have := OL.out h; omega), hbel⟩
     case measure => simp [intOf]; omega
    have d2 : decide (248 <= z) = false := decide_eq_false c2
    have HQ := hid (AZ.out (by omega) (by omega))
    clear AZ OL;go_wp2
    go_loop [8, 9] (fun r i => ∃ (j : Nat) (q : Int), 1 <= j /\ j <= k /\ i = .int .i64 j /\ r = .int .i32 q /\ 0 <= q /\ q < 67108864 /\ Hid (q = accV k s (j - 1))) (fun _ i => k - (intOf i).toNat)
    case atStart => exact ⟨1, z - 240, by omega, hk1, rfl, rfl, by omega, by omega, hid (by have := HQ.out; simpa using this)⟩
    case round =>
     obtain ⟨j, q, hj1, hjk, rfl, rfl, hq0, hq1, HA⟩ := hrel
     clear hx0 e2 e3 e4 d1 d2;by_cases hjl : j < k
     ·have hx : ∀ W, (Instr.index 9 (.string ⟨s.toArray⟩) (.int .i64 j)).run Tryz.prog W = .ok (.int .u8 (at8 s j)) W := fun W => str_idx s j (by omega) W
      have hv2 := accV_lt k s j (by omega)
      have hrec : accV k s j = accV k s (j - 1) * 64 + at8 s j % 64 := by
       obtain ⟨j', rfl⟩ : ∃ j', j = j' + 1 := ⟨j - 1, by omega⟩
       rfl
      obtain ⟨y, hy⟩ : ∃ y : Int, y = at8 s j := ⟨_, rfl⟩
      rw [<- hy] at hx
      have y0 : 0 <= y := by omega
      have y1 : y < 256 := by have := at8_lt s j; omega
      have hq64 : 64 * q + y % 64 < 67108864 := by have := HA.out; omega
      have HN := hid (show 64 * q + y % 64 = accV k s (j + 1 - 1) by rw [Nat.add_sub_cancel]; have := HA.out; omega)
      clear hy hrec hv2;go_wp2
      go_round
      case rel => exact ⟨j + 1, 64 * q + y % 64, by omega, by omega, by go_num, rfl, by omega, hq64, HN.out⟩
      case measure => simp [intOf]; omega
     ·obtain rfl : j = k := by omega
      clear HQ HZ;have hqv : q = (valR j s : Int) := by rw [HA.out, accV_val j s hj1 hk4]
      clear HA;have hok := okR_iff j s
      have hvl := valR_lt j s
      generalize hvv : valR j s = v at *
      have HV := hid hvv;clear hvv;have CR := hid (fun W h => ref_Raw v W h)
      rw [<- hqv] at CR
      have CM := hid (fun b (h : mayR q = b) W => ref_May_is q b h W)
      have hct2 := fun W => str_to s j hlen W
      have HK := hid hok;have HQV := hid hqv;clear hok hqv hvl;by_cases hq : q = 0
      ·have dq : decide (0 < q) = false := decide_eq_false (by omega)
       have HQ0 := hid hq;clear hq;go_wp2
       refine regionQ [] (by kernel_rfl) trivial fun KQ hKQ => ?_
       refine tQ [0, 1, 2] ?_;refine uQ 3 ?_;refine uQ 4 ?_;refine tQ [5, 6] ?_;refine uQ 7 ?_;refine uQ 8 ?_;refine uQ 9 ?_;refine uQ 10 ?_;refine uQ 11 ?_;refine uQ 12 ?_;refine tQ [13] ?_;refine dQ (hKQ.out _ _ ?_);clear hKQ KQ;go_wp2
       go_roundw
       case rel => exact ⟨j + 1, by omega, by omega, by go_num, NX.out (Bool.eq_false_iff.2 fun h => (HK.out.1 h).2.1 (by have := HQV.out; have := HQ0.out; omega)), hbel.drew⟩
       case measure => simp [intOf]; omega
      have dq : decide (0 < q) = true := decide_eq_true (by omega)
      go_wp2
      refine regionQ [] (by kernel_rfl) trivial fun KQ hKQ => ?_
      refine tQ [0, 1, 2, 3] ?_;refine sN 4 fun K hK => ?_;simp only [GO];go_simp;cases hmy : mayR q
      ·refine (CM.out _ hmy _).mono ?_
       rintro e w5 ⟨rfl, rfl⟩
       refine hK _ _ ?_;clear hK K;try simp only [PT]
       refine tQ [5, 6] ?_;refine uQ 7 ?_;refine uQ 8 ?_;refine uQ 9 ?_;refine uQ 10 ?_;refine uQ 11 ?_;refine uQ 12 ?_;refine tQ [13] ?_;refine dQ (hKQ.out _ _ ?_);clear hKQ KQ;go_wp2
       go_roundw
       case rel => exact ⟨j + 1, by omega, by omega, by go_num, NX.out (Bool.eq_false_iff.2 fun h => by have h1 := (HK.out.1 h).2.2.1; rw [<- HQV.out, hmy] at h1; cases h1), hbel.drew⟩
       case measure => simp [intOf]; omega
      ·refine (CM.out _ hmy _).mono ?_
       rintro e w5 ⟨rfl, rfl⟩
       refine hK _ _ ?_;clear hK K;try simp only [PT]
       refine tQ [5, 6, 7, 9, 10, 11] ?_;refine sN 8 fun K hK => ?_;simp only [GO];go_simp;refine (CR.out _ (by have := (mayR_iff q).1 hmy; have := HQV.out; omega)).mono ?_
       rintro e w6 ⟨rfl, hb6⟩
       have hbel6 := hbel.drew.trans (hb6.mono hbel.drew.size)
       refine hK _ _ ?_;clear hK K;try simp only [PT]
       by_cases hE : encR v = s.take j
       ·rw [hE]
        refine tQ [12, 13] ?_;refine dQ (hKQ.out _ _ ?_);clear hKQ KQ;go_wp2
        refine bodyPost_ret (v := .tuple #[.int .i32 q, .int .i64 j]) (by simp [results, Tryz.results183, go_sem]) rfl ⟨?_, hbel6⟩
        have hokk : okR j s = true := HK.out.2 ⟨hlen, by have := HQV.out; omega, by rw [<- HQV.out]; exact hmy, hE⟩
        rw [firstF_at j s hk1 hk4 hj.out hokk, HV.out, HQV.out]
       ·have hE2 : ((⟨(encR v).toArray⟩ : ByteArray).toList == (⟨(s.take j).toArray⟩ : ByteArray).toList) = false := by
         rw [ByteArray.toList_eq, ByteArray.toList_eq]
         simpa using hE
        have hE3 : (encR v == s.take j) = false := by simpa using hE
        refine tQ [12, 13] ?_;refine dQ (hKQ.out _ _ ?_);clear hKQ KQ;go_wp2
        go_roundw
        case rel => exact ⟨j + 1, by omega, by omega, by go_num, NX.out (Bool.eq_false_iff.2 fun h => hE (HK.out.1 h).2.2.2), hbel6⟩
        case measure => simp [intOf]; omega
  ·have hall : firstF s = (0, 0) := by
    have h : ∀ n, 1 <= n -> n <= 4 -> okR n s = false := fun n h1 h4 => by
     rcases Nat.lt_or_ge n k with h2 | h2
     ·exact hj.out n h1 h2
     ·exact Bool.eq_false_iff.2 fun h => by have := ((okR_iff n s).1 h).1; omega
    unfold firstF
    simp [h 1, h 2, h 3, h 4]
   have HA := hid hall;clear hall;rcases (show k = 5 \/ (k <= 4 /\ s.length < k) by omega) with rfl | ⟨h1, h2⟩
   ·go_wp2
    refine bodyPost_ret (v := .tuple #[.int .i32 0, .int .i64 0]) (by simp [results, Tryz.results183, go_sem]) rfl ⟨?_, hbel⟩
    rw [HA.out]; rfl
   ·have d1 : ¬ (4 : Int) < (k : Int) := by omega
    go_wp2
    refine bodyPost_ret (v := .tuple #[.int .i32 0, .int .i64 0]) (by simp [results, Tryz.results183, go_sem]) rfl ⟨?_, hbel⟩
    rw [HA.out]; rfl
end
section
theorem str_app (x y : List UInt8) : (⟨x.toArray⟩ : ByteArray) ++ ⟨y.toArray⟩ = ⟨(x ++ y).toArray⟩ := by
 apply ByteArray.ext
 simp
end
end Go.Proofs.YtoinabapaeebfaaGreatDoor
