/- Parts of the proof of ScriptCuts: contracts of functions that it reaches, and plain lemmas. No condition of their own. -/
import Derived.Test.YtkghejaimhoboaaGreatDoorPk04
import Derived.Test.YtkghejaimhoboaaGreatDoorPk05
import Derived.Deep.RegionWith
import Derived.Test.YtkghejaimhoboaaGreatDoorPk03
import Derived.IntWalk
import Derived.Laws.AppendOwnNone
import Derived.Maps.OwnOps
set_option linter.unusedSimpArgs false
set_option linter.unusedVariables false
set_option maxRecDepth 100000
set_option maxHeartbeats 8000000
namespace Go.Proofs.YtkghejaimhoboaaGreatDoor
open Go.RowKit Go.Shelf
section
def leads : List Int := [0, 0, 192, 224, 240]
def CL : Array Value := #[.int .i32 0, .int .u8 0, .int .i32 128, .int .u8 0, .int .i32 2048, .int .u8 192, .int .i32 65536, .int .u8 224, .int .i32 1114112, .int .u8 240]
theorem cls_at (k : Nat) (h : k < 5) (w : World) : (Instr.index 395 (.agg CL) (.int .i64 k)).run Tryz.prog w = .ok (.agg #[.int .i32 (belows[k]?.getD 0), .int .u8 (leads[k]?.getD 0)]) w := by
 rcases (show k = 0 \/ k = 1 \/ k = 2 \/ k = 3 \/ k = 4 by omega) with rfl | rfl | rfl | rfl | rfl
 ·exact cls_0 w
 ·exact cls_1 w
 ·exact cls_2 w
 ·exact cls_3 w
 ·exact cls_4 w
theorem str_size (s : List UInt8) : ByteArray.size ⟨s.toArray⟩ = s.length := by simp [ByteArray.size]
theorem str_idx (s : List UInt8) (i : Nat) (h : i < s.length) (W : World) : (Instr.index 9 (.string ⟨s.toArray⟩) (.int .i64 i)).run Tryz.prog W = .ok (.int .u8 (at8 s i)) W := by
 rw [run_index_string _ 9 _ _ _ Tryz.underlying9, dif_pos (by rw [str_size]; omega)]
 simp [at8, h, ByteArray.getElem_eq_getElem_data]
theorem str_extract (s : List UInt8) (i j : Nat) : (ByteArray.mk s.toArray).extract i j = ⟨((s.take j).drop i).toArray⟩ := by
 apply ByteArray.ext
 rw [ByteArray.data_extract]
 simp [List.drop_take]
theorem str_cut (s : List UInt8) (i j : Nat) (hi : i <= j) (hj : j <= s.length) (W : World) : (Instr.slice 9 (.string ⟨s.toArray⟩) (some (.int .i64 i)) (some (.int .i64 j)) none).run Tryz.prog W = .ok (.string ⟨((s.take j).drop i).toArray⟩) W := by
 rw [run_slice_string _ 9 _ _ _ _ _ Tryz.underlying9 (by omega) (by omega) (by rw [str_size]; omega)]
 simp [str_extract]
theorem str_to (s : List UInt8) (j : Nat) (hj : j <= s.length) (W : World) : (Instr.slice 9 (.string ⟨s.toArray⟩) none (some (.int .i64 j)) none).run Tryz.prog W = .ok (.string ⟨(s.take j).toArray⟩) W := by
 rw [run_slice_string_h (ht := Tryz.underlying9) (h0 := by omega) (h2 := by rw [str_size]; omega)]
 simp [str_extract]
theorem str_from (s : List UInt8) (i : Nat) (hi : i <= s.length) (W : World) : (Instr.slice 9 (.string ⟨s.toArray⟩) (some (.int .i64 i)) none none).run Tryz.prog W = .ok (.string ⟨(s.drop i).toArray⟩) W := by
 rw [run_slice_string_l (ht := Tryz.underlying9) (h0 := by omega) (h1 := by rw [str_size]; omega)]
 rw [str_size]
 simp [str_extract]
theorem bytesRow_cell (w0 : World) (bd : List UInt8) (cap : Nat) (t : TypeId) (fz : Nat × Nat) (j : Nat) (h : j < bd.length) :
  (w0.alloc (.cells (bytesRow ⟨bd.toArray⟩ cap) t fz)).cell? ⟨w0.heap.size, j, none⟩ = some (.int .u8 (at8 bd j)) := by
 have h1 := World.alloc_heap_new w0 (.cells (bytesRow ⟨bd.toArray⟩ cap) t fz)
 simp only [World.cell?, h1]
 simp [bytesRow, at8, Array.getElem?_append, h]
theorem at8_body (s : List UInt8) (k j : Nat) (h : j < k - 1) : at8 (s.take k).tail j = at8 s (j + 1) := by
 unfold at8
 rw [List.getElem?_tail, List.getElem?_take_of_lt (by omega)]
theorem utf_may_is (r : Nat) (b : Bool) (h : mayR r = b) (w : World) : Calls Tryz.prog 352 #[.int .i32 r] w fun e w' => e = .returned (.bool b) /\ w = w' := h ▸ utf_may r w
def mdR (k : Nat) : Nat := if k = 1 then 256 else if k = 2 then 64 else if k = 3 then 32 else 16
def accV (k : Nat) (s : List UInt8) : Nat -> Nat
 | 0 => at8 s 0 % mdR k
 | j + 1 => accV k s j * 64 + at8 s (j + 1) % 64
theorem accV_lt (k : Nat) (s : List UInt8) (j : Nat) (h : j <= 3) : accV k s j < 67108864 := by
 have h0 := at8_lt s 0
 have h1 : at8 s 0 % mdR k <= at8 s 0 := Nat.mod_le _ _
 rcases (show j = 0 \/ j = 1 \/ j = 2 \/ j = 3 by omega) with rfl | rfl | rfl | rfl <;> simp only [accV] <;> omega
theorem accV_val (k : Nat) (s : List UInt8) (h1 : 1 <= k) (h4 : k <= 4) : accV k s (k - 1) = valR k s := by
 have h0 := at8_lt s 0
 rcases (show k = 1 \/ k = 2 \/ k = 3 \/ k = 4 by omega) with rfl | rfl | rfl | rfl <;> simp [accV, valR, mdR] <;> omega
theorem u8_andNot (k : Nat) (h1 : 1 <= k) (h4 : k <= 4) (x : Nat) (hx : x < 256) : bits .andNot .u8 (x : Int) (leads[k]?.getD 0) = ((x % mdR k : Nat) : Int) := by
 have h : ∀ y : Fin 256, bits .andNot .u8 (y.val : Int) 0 = ((y.val % 256 : Nat) : Int) /\ bits .andNot .u8 (y.val : Int) 192 = ((y.val % 64 : Nat) : Int) /\ bits .andNot .u8 (y.val : Int) 224 = ((y.val % 32 : Nat) : Int) /\ bits .andNot .u8 (y.val : Int) 240 = ((y.val % 16 : Nat) : Int) := by decide +kernel
 obtain ⟨a, b, c, d⟩ := h ⟨x, hx⟩
 rcases (show k = 1 \/ k = 2 \/ k = 3 \/ k = 4 by omega) with rfl | rfl | rfl | rfl
 ·exact a
 ·exact b
 ·exact c
 ·exact d
theorem u8_and63 (x : Nat) (hx : x < 256) : bits .and .u8 (x : Int) 63 = ((x % 64 : Nat) : Int) := by
 have h : ∀ y : Fin 256, bits .and .u8 (y.val : Int) 63 = ((y.val % 64 : Nat) : Int) := by decide +kernel
 exact h ⟨x, hx⟩
theorem i32_or64 (q x : Nat) (hq : q < 33554432) (h : x < 64) : bits .or .i32 ((q * 64 : Nat) : Int) (x : Int) = ((q * 64 + x : Nat) : Int) := by
 show IntKind.i32.wrap ((BitVec.ofInt 32 ((q * 64 : Nat) : Int) ||| BitVec.ofInt 32 (x : Int)).toNat : Int) = _
 rw [BitVec.toNat_or, ofInt_i32 x (by omega), ofInt_i32 _ (by omega), IntKind.wrap_i32, Nat.mul_comm q 64, or_pow 6 q x (by omega)]
 omega
theorem utf_first (s : List UInt8) (w : World) (hs : s.length <= 140737488355328) :
  Calls Tryz.prog 330 #[.string ⟨s.toArray⟩] w fun e w' => e = .returned (.tuple #[.int .i32 (firstF s).1, .int .i64 (firstF s).2]) /\ Below w.heap.size w w' := by
 go_enter Tryz.func330, Tryz.ntmps330
 go_wp2_with fail
 refine (utf_classes _).mono ?_
 rintro e w1 ⟨rfl, rfl⟩
 have hb1 : Below w.heap.size w (w.alloc (.cells CL 395)) := (Below.refl _ _).alloc (Nat.le_refl _) _
 generalize hw1 : (w.alloc (.cells #[.int .i32 0, .int .u8 0, .int .i32 128, .int .u8 0, .int .i32 2048, .int .u8 192, .int .i32 65536, .int .u8 224, .int .i32 1114112, .int .u8 240] 395)) = w1 at *
 have hb1 : Below w.heap.size w w1 := hw1 ▸ hb1
 have hsz : ByteArray.size ⟨s.toArray⟩ = s.length := by simp [ByteArray.size]
 rw [show (#[.int .i32 0, .int .u8 0, .int .i32 128, .int .u8 0, .int .i32 2048, .int .u8 192, .int .i32 65536, .int .u8 224, .int .i32 1114112, .int .u8 240] : Array Value) = CL from rfl]
 go_wp2
 go_loopw [4, 5, 6, 8, 10] (fun _ _ _ _ i wr => ∃ (k : Nat), k <= 5 /\ i = .int .i64 k /\ Hid (∀ j, j < k -> j ≠ 0 -> okR j s = false) /\ Below w.heap.size w wr) (fun _ _ _ _ i _ => 5 - (intOf i).toNat)
 case atStart => exact ⟨0, by omega, rfl, fun j hj => absurd hj (Nat.not_lt_zero _), hb1⟩
 case round =>
  obtain ⟨k, hk, rfl, hj, hbel⟩ := hrel
  rcases Nat.lt_or_ge k 5 with hk5 | hk5
  ·have hix := cls_at k hk5
   rcases Nat.eq_zero_or_pos k with rfl | hk0
   ·have hix2 : ∀ w, (Instr.index 395 (.agg CL) (.int .i64 0)).run Tryz.prog w = .ok (.agg #[.int .i32 0, .int .u8 0]) w := cls_0
    rw [show ((0 : Nat) : Int) = 0 from rfl]
    go_wp2
    go_roundw
    case rel => exact ⟨1, by omega, rfl, fun j hj h0 => absurd hj (by omega), hbel.alloc hbel.size _⟩
    case measure => simp [intOf]
   rcases Nat.lt_or_ge s.length k with hlen | hlen
   ·go_wp2
    go_roundw
    case rel =>
     refine ⟨k + 1, by omega, rfl, fun j hj' h0 => ?_, hbel.alloc hbel.size _⟩
     rcases Nat.lt_or_ge j k with h | h
     ·exact hj.out j h h0
     ·have : j = k := by omega
      subst this;simp [okR]; omega
    case measure => simp [intOf]; omega
   ·generalize hLd : leads[k]?.getD 0 = ld at *
    generalize hBl : belows[k]?.getD 0 = bl at *
    have hc1 : (wr.alloc (.cells #[.int .i32 bl, .int .u8 ld] 394)).cell? ⟨wr.heap.size, 1, none⟩ = some (.int .u8 ld) := by
     rw [World.cell?_alloc_at _ _ _ _ rfl]; simp
    have hn1 : ¬ (k : Int) = 0 := by omega
    have hn2 : ¬ (s.length : Int) < k := by omega
    have hx0 := fun W => str_idx s 0 (by omega) W
    have hx0' : ∀ W, (Instr.index 9 (.string ⟨s.toArray⟩) (.int .i64 0)).run Tryz.prog W = .ok (.int .u8 (at8 s 0)) W := hx0
    have han := u8_andNot k (by omega) (by omega) (at8 s 0) (at8_lt s 0)
    rw [hLd] at han
    obtain ⟨a0, ha0⟩ : ∃ a0, at8 s 0 % mdR k = a0 := ⟨_, rfl⟩
    rw [ha0] at han
    have hw32 : wrap32 (a0 : Int) = a0 := by
     have h0 := at8_lt s 0
     have h1 : at8 s 0 % mdR k <= at8 s 0 := Nat.mod_le _ _
     unfold wrap32; omega
    obtain ⟨bd, hbd⟩ : ∃ bd, (s.take k).tail = bd := ⟨_, rfl⟩
    have hbl : bd.length = k - 1 := by rw [<- hbd]; simp; omega
    have hcv := fun W => run_bytes_of_string (P := Tryz.prog) W 9 22 5 ⟨bd.toArray⟩ Tryz.underlying9 Tryz.underlying22 Tryz.underlying5
    have hct : ∀ W, (Instr.slice 9 (.string ⟨s.toArray⟩) (some (.int .i64 1)) (some (.int .i64 k)) none).run Tryz.prog W = .ok (.string ⟨bd.toArray⟩) W := fun W => by rw [<- hbd, <- List.drop_one]; exact str_cut s 1 k (by omega) hlen W
    have hat : Hid (∀ j, j < k - 1 -> at8 bd j = at8 s (j + 1)) := fun j hj => by rw [<- hbd]; exact at8_body s k j hj
    have hac : Hid (a0 = accV k s 0) := ha0.symm
    clear hbd ha0;go_wp2
    go_region
    rw [hw32]
    go_wp2
    rw [hac]
    go_loopw [6, 8, 33] (fun r _ i wi => ∃ (j : Nat), j <= k - 1 /\ r = .int .i32 (accV k s j) /\ i = .int .i64 j /\ Hid (Below w.heap.size w wi /\ ∀ j, j < k - 1 -> wi.cell? ⟨wr.heap.size + 1, j, none⟩ = some (.int .u8 (at8 s (j + 1))))) (fun _ _ i _ => k - (intOf i).toNat)
    case atStart =>
     refine ⟨0, by omega, rfl, rfl, (((hbel.alloc hbel.size _).alloc (by have := hbel.size; simp; omega) _).drew).drew, fun j hj => ?_⟩
     rw [<- hat.out j hj]
     have h1 := fun f1 f2 => bytesRow_cell (wr.alloc (.cells #[.int .i32 bl, .int .u8 ld] 394)) bd (grownCap (wr.alloc (Obj.cells #[Value.int IntKind.i32 bl, Value.int IntKind.u8 ld] 394)).drew (k - 1) 0 5) 5 (f1, f2) j (by omega)
     simp only [World.size_alloc] at h1
     exact h1 _ _
    case round =>
     obtain ⟨j, hjk, rfl, rfl, hin⟩ := hrel
     clear hcv hix hx0 hx0' hc1 han hw1;rcases Nat.lt_or_ge j (k - 1) with hjl | hjl
     ·have hc := hin.out.2 j hjl
      have hv := accV_lt k s j (by omega)
      have hv2 := accV_lt k s (j + 1) (by omega)
      have g1 := u8_and63 (at8 s (j + 1)) (at8_lt s (j + 1))
      have g2 := i32_or64 (accV k s j) (at8 s (j + 1) % 64) (by simp only [accV] at hv2; omega) (by omega)
      go_wp2
      go_roundw
      case rel =>
       have e1 : wrap32 ((accV k s j : Int) * 64) = ((accV k s j * 64 : Nat) : Int) := by
        simp only [accV] at hv2
        unfold wrap32; omega
       refine ⟨j + 1, by omega, ?_, rfl, hin⟩
       rw [e1, show ((at8 s (j + 1) : Int) % 64) = ((at8 s (j + 1) % 64 : Nat) : Int) from rfl, g2]
       rfl
      case measure => simp [intOf]; omega
     ·obtain rfl : j = k - 1 := by omega
      rw [accV_val k s (by omega) (by omega)]
      have hbel2 := hin.out.1
      clear hin;have hvl := valR_lt k s
      have hok := okR_iff k s
      generalize hvv : valR k s = v at *
      have HV := hid hvv;clear hvv;have hct2 := fun W => str_to s k hlen W
      rcases Nat.eq_zero_or_pos v with rfl | hv0
      ·go_wp2
       go_region
       go_wp2
       go_roundw
       case rel =>
        refine ⟨k + 1, by omega, rfl, fun i hi h0 => ?_, hbel2.drew⟩
        rcases Nat.lt_or_ge i k with h | h
        ·exact hj.out i h h0
        ·have : i = k := by omega
         subst this;exact Bool.eq_false_iff.2 (fun h => (hok.1 h).2.1 rfl)
       case measure => simp [intOf]; omega
      ·have hv1 : ¬ v = 0 := by omega
       go_wp2
       have hne : ((v : Int) != 0) = true := by simp; omega
       refine regionQ [] (by kernel_rfl) trivial fun KQ hKQ => ?_
       refine tQ [0, 1, 2, 3] ?_;refine sN 4 fun K hK => ?_;simp only [GO];go_simp;cases hmy : mayR v
       ·refine (utf_may_is v _ hmy _).mono ?_
        rintro e w5 ⟨rfl, rfl⟩
        refine hK _ _ ?_;clear hK K;try simp only [PT]
        refine tQ [5, 6] ?_;refine uQ 7 ?_;refine uQ 8 ?_;refine uQ 9 ?_;refine uQ 10 ?_;refine uQ 11 ?_;refine uQ 12 ?_;refine uQ 13 ?_;refine tQ [14] ?_;refine dQ (hKQ.out _ _ ?_);clear hKQ KQ;go_wp2
        go_roundw
        case rel =>
         refine ⟨k + 1, by omega, rfl, fun i hi h0 => ?_, hbel2.drew⟩
         rcases Nat.lt_or_ge i k with h | h
         ·exact hj.out i h h0
         ·have : i = k := by omega
          subst this;exact Bool.eq_false_iff.2 (fun h => by have := (hok.1 h).2.2.1; rw [hmy] at this; cases this)
        case measure => simp [intOf]; omega
       ·refine (utf_may_is v _ hmy _).mono ?_
        rintro e w5 ⟨rfl, rfl⟩
        refine hK _ _ ?_;clear hK K;try simp only [PT]
        refine tQ [5, 6, 7, 10, 11, 12] ?_;refine sN 8 fun K hK => ?_;simp only [GO];go_simp;refine (utf_raw v _ (by have := (mayR_iff v).1 hmy; omega)).mono ?_
        rintro e w6 ⟨rv, rfl, how6, hb6⟩
        obtain ⟨ra, rc, rfl, hrow⟩ := RowAt.of_own how6
        have hcv6 := run_str hrow
        have hbel6 := hbel2.drew.trans (hb6.mono hbel2.drew.size)
        refine hK _ _ ?_;clear hK K;try simp only [PT]
        refine sN 9 fun K hK => ?_;simp only [GO];go_simp;refine hK _ _ ?_;clear hK K;try simp only [PT]
        by_cases hE : encR v = s.take k
        ·rw [hE]
         refine tQ [13, 14] ?_;refine dQ (hKQ.out _ _ ?_);clear hKQ KQ;go_wp2
         refine bodyPost_ret (v := .tuple #[.int .i32 v, .int .i64 k]) (by simp [results, Tryz.results330, go_sem]) rfl ⟨?_, hbel6⟩
         have hokk : okR k s = true := hok.2 ⟨hlen, by omega, hmy, hE⟩
         have hno : ∀ j, j < k -> j ≠ 0 -> okR j s = false := hj.out
         have hfs : firstF s = (v, k) := by
          rw [<- HV.out]
          unfold firstF
          rcases (show k = 1 \/ k = 2 \/ k = 3 \/ k = 4 by omega) with rfl | rfl | rfl | rfl
          ·rw [if_pos hokk]
          ·rw [if_neg (by rw [hno 1 (by omega) (by omega)]; exact Bool.false_ne_true), if_pos hokk]
          ·rw [if_neg (by rw [hno 1 (by omega) (by omega)]; exact Bool.false_ne_true), if_neg (by rw [hno 2 (by omega) (by omega)]; exact Bool.false_ne_true), if_pos hokk]
          ·rw [if_neg (by rw [hno 1 (by omega) (by omega)]; exact Bool.false_ne_true), if_neg (by rw [hno 2 (by omega) (by omega)]; exact Bool.false_ne_true), if_neg (by rw [hno 3 (by omega) (by omega)]; exact Bool.false_ne_true), if_pos hokk]
         rw [hfs]
        ·have hE2 : ((⟨(encR v).toArray⟩ : ByteArray).toList == (⟨(s.take k).toArray⟩ : ByteArray).toList) = false := by
          rw [ByteArray.toList_eq, ByteArray.toList_eq]
          simpa using hE
         have hE3 : (encR v == s.take k) = false := by simpa using hE
         refine tQ [13, 14] ?_;refine dQ (hKQ.out _ _ ?_);clear hKQ KQ;go_wp2
         go_roundw
         case rel =>
          refine ⟨k + 1, by omega, rfl, fun i hi h0 => ?_, hbel6⟩
          rcases Nat.lt_or_ge i k with h | h
          ·exact hj.out i h h0
          ·have : i = k := by omega
           subst this;exact Bool.eq_false_iff.2 (fun h => hE (hok.1 h).2.2.2)
         case measure => simp [intOf]; omega
  ·obtain rfl : k = 5 := by omega
   go_wp2
   refine bodyPost_ret (v := .tuple #[.int .i32 0, .int .i64 0]) (by simp [results, Tryz.results330, go_sem]) rfl ⟨?_, hbel⟩
   have g1 := hj.out 1 (by omega) (by omega)
   have g2 := hj.out 2 (by omega) (by omega)
   have g3 := hj.out 3 (by omega) (by omega)
   have g4 := hj.out 4 (by omega) (by omega)
   simp [firstF, g1, g2, g3, g4]
end
section
attribute [local go_sem] Oper.semAt_some
def encU (x : Nat × Nat) : Array Value := #[.int .i64 x.1, .int .i32 x.2]
def RuneNx (s : List UInt8) (pre : List (Nat × Nat)) (x : Nat × Nat) (_W : World) : Prop :=
 ∃ s' p', ChainU s 0 pre s' p' /\ s' ≠ [] /\ ((badR s' p' = true /\ x = (p', 0)) \/ (badR s' p' = false /\ x = (p', (firstF s').1)))
def RuneS (s : List UInt8) (xs : List (Nat × Nat)) : Prop :=
 (∃ p', ChainU s 0 xs [] p') \/ ∃ pre s' p', ChainU s 0 pre s' p' /\ s' ≠ [] /\ badR s' p' = true /\ xs = pre ++ [(p', 0)]
theorem utf_runes (s : List UInt8) (w : World) :
  Calls Tryz.prog 305 #[.string ⟨s.toArray⟩] w fun e w' => e = .returned (.func (.func 329) #[] #[.pointer (some ⟨w.heap.size, 0, none⟩)]) /\ w.alloc (.cells #[.string ⟨s.toArray⟩] 9) = w' := by
 go_enter Tryz.func305, Tryz.ntmps305
 go_wp2
 go_ret
 exact ⟨rfl, rfl⟩
theorem utf_runes1 (s : List UInt8) (w0 w : World) (B : Nat) (hs : s.length <= 1000000) (hB0 : w0.heap.size <= B) (hw : Below w0.heap.size w0 w) (hb : Boxed w B 9 (.string ⟨s.toArray⟩)) :
  SeqG Tryz.prog 329 #[.pointer (some ⟨B, 0, none⟩)] encU (Keep w0.heap.size [B]) (Wrote []) (RuneNx s) (RuneS s) (fun _ => True) w := by
 intro lb J Jx W hW hlb hJ hJx hY h0
 refine callsIn_of_wp Tryz.func329 rfl trivial ?_ rfl
 simp only [Tryz.ntmps329, List.size_toArray, List.length_cons, List.length_nil, Nat.reduceAdd, Nat.reduceSub, Array.replicate_succ, Array.replicate_zero, List.push_toArray, List.append_toArray, List.nil_append, List.cons_append]
 have hsz : ByteArray.size ⟨s.toArray⟩ = s.length := by simp [ByteArray.size]
 gi_wp2
 gi_loopw [3, 4, 5] (fun at_ _ _ wr => ∃ (pre : List (Nat × Nat)) (s' : List UInt8) (p' : Nat), at_ = .int .i64 p' /\ p' <= s.length /\ Below w0.heap.size w0 wr /\ Boxed wr B 9 (.string ⟨s.toArray⟩) /\ ChainU s 0 pre s' p' /\ Hid (s' = s.drop p') /\ J pre wr)
  (fun at_ _ _ _ => s.length - (intOf at_).toNat)
 case atStart => exact ⟨[], s, 0, rfl, Nat.zero_le _, hw.trans (hW.mono hw.size), boxed_below hb hW, ⟨rfl, rfl⟩, rfl, h0⟩
 case round =>
  obtain ⟨pre, s', p', rfl, hp, hbel, hbx, hch, hs', hj⟩ := hrel
  have hc1 := hbx.cell
  rcases Nat.lt_or_ge p' s.length with hlt | hge
  ·have hcut := fun W => str_from s p' hp W
   have hl' : s'.length = s.length - p' := by rw [hs'.out]; simp
   have HC := hid (utf_first s' wr (by omega))
   rw [<- hs'.out] at hcut
   have hle := firstF_le s'
   have hbd : badR s' p' = (decide ((firstF s').2 = 0) || decide (65535 < p' + (firstF s').2)) := rfl
   have hne : s' ≠ [] := by intro h; rw [h] at hl'; simp at hl'; omega
   have HNX : ∀ x, (badR s' p' = true /\ x = (p', 0)) \/ (badR s' p' = false /\ x = (p', (firstF s').1)) -> RuneNx s pre x wr := fun x hx => ⟨s', p', hch, hne, hx⟩
   have HF := hid (show firstF s' = ((firstF s').1, (firstF s').2) from rfl)
   have HSN := hid (fun h => hch.snoc hne h)
   generalize hq1 : (firstF s').1 = r at *
   generalize hq2 : (firstF s').2 = n at *
   rcases (show n = 0 \/ (0 < n /\ 65535 < p' + n) \/ (0 < n /\ p' + n <= 65535) by omega) with rfl | ⟨hn, hn2⟩ | ⟨hn, hn2⟩
   ·skip
    gi_wp2_with fail
    refine inW HC.out ?_
    rintro e w2 ⟨rfl, hb2⟩
    have hbel2 := hbel.trans (hb2.mono hbel.size)
    have hbx2 := boxed_below hbx hb2
    have hj2 := hJ _ _ _ hj (Wrote.of_below hb2)
    obtain ⟨fn, tmps, assign, body, hy, hR⟩ := hY pre (p', 0) w2 hj2 (HNX _ (.inl ⟨by simp [hbd], rfl⟩))
    replace hy : (Instr.yield lb #[.int .i64 (p' : Int), .int .i32 0]).run Tryz.prog w2 = _ := hy
    have HR := hid hR;clear hR;gi_wp2_with fail
    refine ⟨rfl, HR.out.mono ?_⟩
    rintro e W3 (⟨rfl, hJ3, hk3⟩ | ⟨rfl, hJx3⟩)
    ·gi_wp2
     refine bodyPost_ret (results_none rfl _ _ _) rfl ?_
     exact ⟨⟨_, rfl⟩, .inl ⟨_, .inr ⟨pre, s', p', hch, hne, by simp [hbd], rfl⟩, hJ3⟩⟩
    ·gi_wp2
     refine bodyPost_ret (results_none rfl _ _ _) rfl ?_
     exact ⟨⟨_, rfl⟩, .inr ⟨_, trivial, hJx3⟩⟩
   ·have e1 : ((n : Int) == 0) = false := by simp; omega
    have hbt : badR s' p' = true := by rw [hbd]; simp; omega
    gi_wp2_with fail
    refine inW HC.out ?_
    rintro e w2 ⟨rfl, hb2⟩
    have hbel2 := hbel.trans (hb2.mono hbel.size)
    have hbx2 := boxed_below hbx hb2
    have hj2 := hJ _ _ _ hj (Wrote.of_below hb2)
    obtain ⟨fn, tmps, assign, body, hy, hR⟩ := hY pre (p', 0) w2 hj2 (HNX _ (.inl ⟨hbt, rfl⟩))
    replace hy : (Instr.yield lb #[.int .i64 (p' : Int), .int .i32 0]).run Tryz.prog w2 = _ := hy
    have HR := hid hR;clear hR;gi_wp2_with fail
    refine ⟨rfl, HR.out.mono ?_⟩
    rintro e W3 (⟨rfl, hJ3, hk3⟩ | ⟨rfl, hJx3⟩)
    ·gi_wp2
     refine bodyPost_ret (results_none rfl _ _ _) rfl ?_
     exact ⟨⟨_, rfl⟩, .inl ⟨_, .inr ⟨pre, s', p', hch, hne, hbt, rfl⟩, hJ3⟩⟩
    ·gi_wp2
     refine bodyPost_ret (results_none rfl _ _ _) rfl ?_
     exact ⟨⟨_, rfl⟩, .inr ⟨_, trivial, hJx3⟩⟩
   ·have e1 : ((n : Int) == 0) = false := by simp; omega
    have hbt : badR s' p' = false := by rw [hbd]; simp; omega
    gi_wp2_with fail
    refine inW HC.out ?_
    rintro e w2 ⟨rfl, hb2⟩
    have hbel2 := hbel.trans (hb2.mono hbel.size)
    have hbx2 := boxed_below hbx hb2
    have hj2 := hJ _ _ _ hj (Wrote.of_below hb2)
    obtain ⟨fn, tmps, assign, body, hy, hR⟩ := hY pre (p', r) w2 hj2 (HNX _ (.inr ⟨hbt, rfl⟩))
    replace hy : (Instr.yield lb #[.int .i64 (p' : Int), .int .i32 (r : Int)]).run Tryz.prog w2 = _ := hy
    have HR := hid hR;clear hR;gi_wp2_with fail
    refine ⟨rfl, HR.out.mono ?_⟩
    rintro e W3 (⟨rfl, hJ3, hk3⟩ | ⟨rfl, hJx3⟩)
    ·have hbx3 : Boxed W3 B 9 _ := (hk3.keep B (by simp)).trans hbx2
     have hbel3 := hbel2.trans hk3.bel
     gi_wp2
     go_roundw
     case rel =>
      refine ⟨pre ++ [(p', r)], s'.drop n, p' + n, by go_num, by omega, hbel3, hbx3, HSN.out hbt, ?_, hJ3⟩
      show s'.drop n = s.drop (p' + n)
      rw [hs'.out, List.drop_drop]
     case measure => simp [intOf]; omega
    ·gi_wp2
     refine bodyPost_ret (results_none rfl _ _ _) rfl ?_
     exact ⟨⟨_, rfl⟩, .inr ⟨_, trivial, hJx3⟩⟩
  ·obtain rfl : p' = s.length := by omega
   have hnil : s' = [] := by rw [hs'.out]; simp
   subst hnil;gi_wp2
   refine bodyPost_end (results_none rfl _ _ _) rfl ?_
   exact ⟨⟨_, rfl⟩, .inl ⟨_, .inl ⟨_, hch⟩, hj⟩⟩
end
section
attribute [local go_sem] Oper.semAt_some
def wrongU (s : List UInt8) : Int := match (runesL s 0).2 with
 | none => -1
 | some p => p
theorem firstF_ne (s : List UInt8) (p : Nat) (h : badR s p = false) : (firstF s).1 ≠ 0 /\ 0 < (firstF s).2 /\ p + (firstF s).2 <= 65535 /\ mayR (firstF s).1 = true /\ (firstF s).1 <= 1114111 /\ (firstF s).2 = lenR (firstF s).1 := by
 simp only [badR, Bool.or_eq_false_iff, decide_eq_false_iff_not] at h
 rcases firstF_spec s with h' | ⟨r, n, h', h1, h2, h3, _⟩
 ·rw [h'] at h; exact absurd rfl h.1
 ·rw [h'] at h ⊢
  refine ⟨h1, by omega, by omega, h2, ?_, h3⟩
  have := (mayR_iff r).1 h2
  dsimp only
  omega
theorem RuneNx.cases {s : List UInt8} {pre : List (Nat × Nat)} {x : Nat × Nat} {W : World} (h : RuneNx s pre x W) : (x.2 = 0 /\ (runesL s 0).2 = some x.1 /\ (runesL s 0).1 = pre.map (·.2)) \/ (x.2 ≠ 0 /\ x.2 <= 1114111) := by
 obtain ⟨s', p', hch, hne, ⟨hb, rfl⟩ | ⟨hb, rfl⟩⟩ := h
 ·refine .inl ⟨rfl, ?_⟩
  rw [hch.runes, runesL_bad s' p' hne hb]
  simp
 ·exact .inr ⟨(firstF_ne s' p' hb).1, (firstF_ne s' p' hb).2.2.2.2.1⟩
theorem RuneS.cases {s : List UInt8} {xs : List (Nat × Nat)} (h : RuneS s xs) : ((runesL s 0).2 = none /\ (runesL s 0).1 = xs.map (·.2)) \/ ∃ x ∈ xs, x.2 = 0 := by
 rcases h with ⟨p', hch⟩ | ⟨pre, s', p', hch, hne, hb, rfl⟩
 ·refine .inl ?_
  rw [hch.runes]
  simp [runesL_nil]
 ·exact .inr ⟨(p', 0), by simp, rfl⟩
def WrongI (w : World) (pre : List (Nat × Nat)) (W : World) : Prop := (∀ x ∈ pre, x.2 ≠ 0) /\ Boxed W w.heap.size 3 (.int .i64 0) /\ Below w.heap.size w W
def WrongX (s : List UInt8) (w : World) (c : Code) (_pre : List (Nat × Nat)) (W : World) : Prop := c = .ret /\ Boxed W w.heap.size 3 (.int .i64 (wrongU s)) /\ Below w.heap.size w W
theorem utf_Wrong (s : List UInt8) (w : World) (hs : s.length <= 1000000) :
  Calls Tryz.prog 284 #[.string ⟨s.toArray⟩] w fun e w' => e = .returned (.int .i64 (wrongU s)) /\ Below w.heap.size w w' := by
 refine calls_marks Tryz.func284 rfl ?_
 simp only [Tryz.ntmps284, List.size_toArray, List.length_cons, List.length_nil, Nat.reduceAdd, Nat.reduceSub, Array.replicate_succ, Array.replicate_zero, List.push_toArray, List.append_toArray, List.nil_append, List.cons_append]
 go_wp2_with fail
 refine (utf_runes s _).mono ?_
 rintro e w' ⟨rfl, rfl⟩
 go_wp2_with fail
 generalize hW0 : ((w.alloc (Obj.cells #[Value.int IntKind.i64 0] 3)).alloc (Obj.cells #[Value.string ⟨s.toArray⟩] 9)) = W0
 have hsz : W0.heap.size = w.heap.size + 2 := by rw [<- hW0]; simp
 have hb0 : Below w.heap.size w W0 := by
  rw [<- hW0]
  exact ((Below.refl _ w).alloc (Nat.le_refl _) _).alloc (by simp) _
 have hbx : Boxed W0 w.heap.size 3 (.int .i64 0) /\ Boxed W0 (w.heap.size + 1) 9 (.string ⟨s.toArray⟩) := by
  have e1 := Boxed.new w 3 (.int .i64 0)
  have e2 := Boxed.new (w.alloc (Obj.cells #[Value.int IntKind.i64 0] 3)) 9 (.string ⟨s.toArray⟩)
  simp only [World.size_alloc] at e2
  rw [<- hW0]
  exact ⟨e1.alloc _, e2⟩
 obtain ⟨b1, b2⟩ := hbx
 have HW0 := hid hW0; clear hW0
 refine wp_range (α := Nat × Nat) (gf := 329) (lb := #[.pointer (some ⟨w.heap.size + 1, 0, none⟩)]) rfl (enters_of Tryz.func329 (by kernel_rfl) rfl)
  (n₀ := w.heap.size) (L := [w.heap.size + 1]) (M := []) (utf_runes1 s w W0 (w.heap.size + 1) hs (by omega) hb0 b2)
  (by omega) (by simp; omega) (by simp) (fun _ => rfl) (WrongI w) (WrongX s w) ?hI ?hIx ?h0
  (fun pre x a' W => RuneNx s pre x W /\ a' = { tmps := #[.string ⟨s.toArray⟩, undef, .pointer (some ⟨w.heap.size, 0, none⟩), .int .i64 x.1, .int .i32 x.2, .string ⟨s.toArray⟩, .func (.func 329) #[] #[.pointer (some ⟨w.heap.size + 1, 0, none⟩)], .int .i64 x.1, .int .i32 x.2, undef, undef, undef], defers := [] }) ?hAx ?assign ?body ?done ?stop
 case hI =>
  rintro s A A' ⟨g1, g2, g3⟩ hw
  rw [hsz] at hw
  exact ⟨g1, hw.boxed (by simp <;> omega) g2, g3.trans (hw.below g3.size (by simp <;> omega))⟩
 case hIx =>
  rintro c s A A' ⟨rfl, g1, g2⟩ hw
  rw [hsz] at hw
  exact ⟨rfl, hw.boxed (by simp <;> omega) g1, g2.trans (hw.below g2.size (by simp <;> omega))⟩
 case h0 => exact ⟨by simp, b1, hb0⟩
 case hAx =>
  rintro pre x a' A A' ⟨hx, rfl⟩ hl hw
  exact ⟨hx, rfl⟩
 case assign =>
  intro pre x W K hl hi hx hK
  simp only [encU]
  gi_wp2
  refine hK _ _ (Below.refl _ _) hi ⟨hx, rfl⟩
 case body =>
  rintro pre x a' W hl ⟨g1, g2, g3⟩ ⟨hx, rfl⟩
  have c1 := g2.cell
  have f1 := g2.frozen
  rcases hx.cases with ⟨h1, h2, _⟩ | ⟨h1, h2⟩
  ·have hwr : wrongU s = x.1 := by unfold wrongU; rw [h2]
   have HW := hid hwr;obtain ⟨x1, x2⟩ := x
   dsimp only at h1
   subst h1;clear h2 hwr;gi_wp2
   refine ⟨Keep.setCell _ _ (by simp) (by simp <;> omega) _, rfl, ?_, g3.setCell (p := ⟨w.heap.size, 0, none⟩) (by simp) _⟩
   rw [HW.out]
   exact g2.set _
  ·have e1 : ((x.2 : Int) == 0) = false := by simp; omega
   gi_wp2
   exact ⟨Keep.refl _ _ _, fun y hy => by rcases List.mem_append.1 hy with hy | hy; exact g1 y hy; rw [List.mem_singleton.1 hy]; exact h1, g2, g3⟩
 case done =>
  rintro xs W hS ⟨g1, g2, g3⟩ hl hD
  rw [hsz] at hl
  have hwr : wrongU s = -1 := by
   rcases hS.cases with ⟨h, _⟩ | ⟨x, hx, h⟩
   ·unfold wrongU; rw [h]
   ·exact absurd h (g1 x hx)
  have HW := hid hwr;clear hwr hS;have c1 := g2.cell
  have f1 := g2.frozen
  go_wp2
  have d1 : Boxed (W.setCell ⟨w.heap.size, 0, none⟩ (.int .i64 (-1))) w.heap.size 3 (.int .i64 (-1)) := g2.set _
  refine ret_mark (v := .int .i64 (-1)) ?_ (fun w' hw' => ?_)
  ·exact (Below.heap_setCell _ _ _ _ (by simp; omega)).trans hD
  ·have wp : Wrote [W0.heap.size] (W.setCell ⟨w.heap.size, 0, none⟩ (.int .i64 (-1))) w' := by rw [hw']; exact Wrote.putObj _ _ (by simp) _
   have d4 := (wp.boxed (by simp; omega) d1).cell
   have hb : Below w.heap.size w (W.setCell ⟨w.heap.size, 0, none⟩ (.int .i64 (-1))) := g3.setCell (p := ⟨w.heap.size, 0, none⟩) (by simp) _
   exact ⟨by simp [results, Tryz.results284, go_sem, d4], by first | rfl | rw [HW.out], hb.trans (wp.below hb.size (by simp; omega))⟩
 case stop =>
  rintro c pre W _ ⟨rfl, g1, g2⟩ hl hD
  rw [hsz] at hl
  have c1 := g1.cell
  have f1 := g1.frozen
  go_wp2
  have d1 : Boxed W w.heap.size 3 (.int .i64 (wrongU s)) := g1
  refine ret_mark (v := .int .i64 (wrongU s)) ?_ (fun w' hw' => ?_)
  ·exact hD
  ·have wp : Wrote [W0.heap.size] W w' := by rw [hw']; exact Wrote.putObj _ _ (by simp) _
   have d4 := (wp.boxed (by simp; omega) d1).cell
   have hb : Below w.heap.size w W := g2
   exact ⟨by simp [results, Tryz.results284, go_sem, d4], by first | rfl | rw [HW.out], hb.trans (wp.below hb.size (by simp; omega))⟩
def checkU (s : List UInt8) : Int := if 0 <= wrongU s then 220 else 0
theorem wrongU_lo (s : List UInt8) : -1 <= wrongU s := by unfold wrongU; split <;> omega
theorem utf_Check (s : List UInt8) (w : World) (hs : s.length <= 1000000) :
  Calls Tryz.prog 241 #[.string ⟨s.toArray⟩] w fun e w' => e = .returned (.int .i64 (checkU s)) /\ Below w.heap.size w w' := by
 unfold checkU
 by_cases h : 0 <= wrongU s
 ·rw [if_pos h]
  go_enter Tryz.func241, Tryz.ntmps241
  go_wp2_with (go_at_call 284; refine (utf_Wrong s _ hs).mono ?_; rintro e w1 ⟨rfl, hb⟩)
  go_ret
  exact ⟨rfl, hb⟩
 ·rw [if_neg h]
  go_enter Tryz.func241, Tryz.ntmps241
  go_wp2_with (go_at_call 284; refine (utf_Wrong s _ hs).mono ?_; rintro e w1 ⟨rfl, hb⟩)
  go_ret
  exact ⟨rfl, hb⟩
end
section
section
variable {P : Program} {ops : Array Oper}
def waitsT (md : Region.Mode) (ops : Array Oper) (i : Nat) : Nat -> Nat -> Bool
 | 0, _ => false
 | f + 1, k => match ops[k]? with
  | none => true
  | some o => o.after.any fun e => Region.binds md e && (e.on == i || ((ops[e.on]?).isSome && waitsT md ops i f e.on))
theorem listed_get {md : Region.Mode} {listed : Array Bool} (hc : ClosedL md ops listed) (k : Nat) (h : ops[k]? = none) : listed.getD k false = false := by
 have h1 := Array.getElem?_eq_none_iff.1 h
 have h2 : listed[k]? = none := Array.getElem?_eq_none_iff.2 (by rw [hc.1]; exact h1)
 rw [Array.getD_eq_getD_getElem?, h2]
 rfl
theorem waitsT_spec {md : Region.Mode} {listed : Array Bool} {i : Nat} (hc : ClosedL md ops listed) (hn : listed.getD i true = false) : ∀ (f k : Nat), waitsT md ops i f k = true -> listed.getD k false = false
 | 0, _, h => by cases h
 | f + 1, k, h => by
  unfold waitsT at h
  cases hk : ops[k]? with
  | none => exact listed_get hc k hk
  | some o =>
   rw [hk] at h
   obtain ⟨e, he, hb⟩ := Array.any_eq_true'.1 h
   simp only [Bool.and_eq_true, Bool.or_eq_true, beq_iff_eq] at hb
   cases hl : listed.getD k false with
   | false => rfl
   | true =>
    exfalso
    have h1 := hc.2 k o hk hl e he hb.1
    rcases hb.2 with h2 | ⟨-, h2⟩
    ·rw [h2] at h1
     rcases Nat.lt_or_ge i listed.size with h' | h'
     ·simp [h'] at hn h1; rw [hn] at h1; cases h1
     ·simp [Array.getElem?_eq_none h'] at h1
    ·have h3 := waitsT_spec hc hn f e.on h2
     rw [h1] at h3
     cases h3
theorem upR.getT {md : Region.Mode} {facts : List Fact} {i : Nat} {w : World} (h : upR md ops facts i w) (k : Nat) (p : World -> Prop) (hm : (k, p) ∈ facts) (hw : waitsT md ops i (ops.size + 1) k = true) : p w := by
 obtain ⟨listed, h1, h2, h3⟩ := h
 exact h3 _ hm (waitsT_spec h1 h2 _ _ hw)
variable {KQ : Exit -> Act -> World -> Prop} {facts : List Fact} {taken : List Nat} {a : Act} {w : World}
end
end
section
open Go.RowKit Go.Shelf Go.MapKept Go.ChangeMaps
theorem findNow_none (q : IntKind) (n : Int) : ∀ (es : List MapEntry) (i : Nat), (∀ x : MapEntry, x ∈ es -> ∃ a, x.key = .int q a /\ a ≠ n) -> Instr.findNow (.int q) (.int q n) es i = some none := by
 intro es
 induction es with
 | nil => intro i _; rfl
 | cons e es ih =>
  intro i h
  obtain ⟨a, ha, hn⟩ := h e (by simp)
  have hb : (n == a) = false := by simp; omega
  simp [Instr.findNow, ha, Instr.sameNow, hb]
  exact ih _ (fun x hx => h x (by simp [hx]))
def putE (es : Array MapEntry) (key val : Value) (clock : Nat) : Array MapEntry := es.push { key, val, born := clock }
theorem run_mapUpdate_new {P : Program} (t k e : TypeId) (q : IntKind) (ht : P.underlying t = some (.map k e)) (hk : P.underlying k = some (.int q)) (w : World) (b : Nat) (es : Array MapEntry) (clock : Nat)
  (hb : w.heap[b]? = some (.map es clock)) (n : Int) (hn : ∀ x : MapEntry, x ∈ es.toList -> ∃ a, x.key = .int q a /\ a ≠ n) (v : Value) :
  (Instr.mapUpdate t (.map (some b)) (.int q n) v).run P w = .ok () (setBlock w b (.map (putE es (.int q n) v clock) (clock + 1))) := by
 have h1 := run_findKey (w := w) hk (findNow_none q n es.toList 0 hn)
 have h2 := run_checkKey (w := w) hk (k := .int q n) (by simp [IsKey]) false 9999
 simp [Instr.mapUpdate, run_underlying ht, MapKept.run_getObj_map hb, h2, h1, MapKept.run_setObj_map _ hb, Result.andThen, setBlock, putE]
theorem wpList_insert_new {P : Program} (w : World) {ops : Array Oper} {rest : List Oper} {o : Oper} {a : Act} {Q : Exit -> Act -> World -> Prop}
  (hg : o.guard = none) (m x v : Operand) (t : TypeId) (hop : o.op = Op.insert t m x v)
  (k e : TypeId) (q : IntKind) (ht : P.underlying t = some (.map k e)) (hk : P.underlying k = some (.int q)) (b : Nat) (es : Array MapEntry) (clock : Nat)
  (hm : a.eval m = .map (some b)) (hb : w.heap[b]? = some (.map es clock)) (n : Int) (val : Value) (hx : a.eval x = .int q n) (hv : a.eval v = val)
  (hn : ∀ x : MapEntry, x ∈ es.toList -> ∃ a, x.key = .int q a /\ a ≠ n)
  (hK : ∀ w', w'.heap[b]? = some (.map (putE es (.int q n) val clock) (clock + 1)) -> w.grownBy w' (some b) -> wpList P ops Q rest (a.put o.dst undef) w') :
  wpList P ops Q (o :: rest) a w := by
 refine wpList_plain hg fun K' hK' => ?_
 have hrun := run_mapUpdate_new t k e q ht hk w b es clock hb n hn val
 unfold Oper.wp
 simp [execOp, hop, hm, hx, hv, hrun, Result.andThen]
 refine hK' _ _ (hK _ ?_ ?_)
 ·have : b < w.heap.size := by rcases Nat.lt_or_ge b w.heap.size with h | h; exact h; rw [Array.getElem?_eq_none h] at hb; cases hb
  simp [setBlock, this]
 ·exact World.mapTurned.grown ⟨es, clock, _, _, hb, rfl⟩
theorem run_lookup_at {P : Program} (t k e : TypeId) (q : IntKind) (ht : P.underlying t = some (.map k e)) (hk : P.underlying k = some (.int q)) (w : World) (b : Nat) (es : Array MapEntry) (clock : Nat)
  (hb : w.heap[b]? = some (.map es clock)) (n : Int) (v : Value) (j : Nat) (hn : Instr.findNow (.int q) (.int q n) es.toList 0 = some (some (j, v))) (c : Bool) :
  (Instr.lookup t (.map (some b)) (.int q n) c).run P w = .ok (if c then .tuple #[v, .bool true] else v) w := by
 have h1 := run_findKey (w := w) hk hn
 have h2 := fun z => run_checkKey (w := w) hk (k := .int q n) (by simp [IsKey]) z 9999
 simp [Instr.lookup, run_underlying ht, MapKept.run_getObj_map hb, h2, h1, Result.andThen]
end
end Go.Proofs.YtkghejaimhoboaaGreatDoor
