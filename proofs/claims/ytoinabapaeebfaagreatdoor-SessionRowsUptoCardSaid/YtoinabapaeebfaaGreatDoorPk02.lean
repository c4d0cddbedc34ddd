/- Parts of the proof of SessionRows: contracts of functions that it reaches, and plain lemmas. No condition of their own. -/
import Derived.Test.YtoinabapaeebfaaGreatDoorPk01
import Derived.Test.YtoinabapaeebfaaGreatDoorProg
import Derived.Laws.AppendOwnNone
import Derived.Laws.IdiomStrings
set_option linter.unusedSimpArgs false
set_option linter.unusedVariables false
set_option maxRecDepth 100000
set_option maxHeartbeats 8000000
namespace Go.Proofs.YtoinabapaeebfaaGreatDoor
open Go.RowKit Go.Shelf
section
theorem Tryz.eByte : ElemT Tryz.prog 71 5 (.int .u8 0) 1 1 := ⟨Tryz.underlying71, by kernel_rfl, rfl⟩
theorem RowAt.one (w : World) (v : Value) (T : TypeId) : RowAt (w.alloc (.cells #[v] T)) (some ⟨w.heap.size, 0, none⟩) 1 1 [v] := RowAt.new w #[v] T (0, 0) (by simp [maxLen])
theorem run_str {w : World} {a : Option Addr} {n cap : Nat} {l : List UInt8} (h : RowAt w a n cap (bs l)) : (convert 71 9 (.slice a n cap)).run Tryz.prog w = .ok (.string ⟨l.toArray⟩) w := by
 have hn : l.length = n := by have := h.len; rwa [bs_len] at this
 subst hn;cases a with
 | none =>
  have h0 : l = [] := by
   cases l with
   | nil => rfl
   | cons x l => obtain ⟨_, _, ha, _⟩ := h.cells 0 (by simp); cases ha
  subst h0;exact run_convert_bytes_nil (w := w) 71 5 Tryz.underlying71 Tryz.underlying5 _ _ 9 Tryz.underlying9
 | some ad =>
  refine run_convert_bytes_back w 71 9 5 ad cap l Tryz.underlying71 Tryz.underlying5 Tryz.underlying9 (fun j hj => ?_)
  obtain ⟨b, off, ha, hc⟩ := h.byte hj
  cases ha
  rw [List.getElem?_eq_getElem hj, Option.getD_some] at hc
  by_cases h0 : j = 0
  ·subst h0; simpa [Addr.add] using hc
  ·simpa [Addr.add, h0] using hc
end
section
theorem mk_bytes (n : Nat) (h : n <= 140737488355328) : ∀ w, (Instr.makeSlice 71 (.int .i64 (n : Int)) (.int .i64 (n : Int))).run Tryz.prog w = .ok (.slice (some ⟨w.heap.size, 0, none⟩) n n) (w.alloc (.cells (madeCells #[.int .u8 0] n) 5)) := by
 intro w
 obtain ⟨i, hi, hz0, hz1, hz2⟩ := info_parts Tryz.eByte.info
 have hr := run_make (P := Tryz.prog) w 71 5 i _ Tryz.eByte.ht hi hz0 .i64 .i64 n n (by omega) (by omega) (by rw [hz2]; omega) (by omega)
 simp only [Int.toNat_natCast] at hr
 rw [hr, hz1, Nat.mul_one]
 rfl
theorem ofInt_i32 (a : Nat) (ha : a < 2147483648) : (BitVec.ofInt 32 (a : Int)).toNat = a := by
 rw [BitVec.ofInt_natCast, BitVec.toNat_ofNat]; exact Nat.mod_eq_of_lt (by omega)
theorem i32_and63 (q : Nat) (h : q < 2147483648) : bits .and .i32 (q : Int) 63 = ((q % 64 : Nat) : Int) := by
 show IntKind.i32.wrap ((BitVec.ofInt 32 (q : Int) &&& BitVec.ofInt 32 ((63 : Nat) : Int)).toNat : Int) = _
 rw [BitVec.toNat_and, ofInt_i32 q h, ofInt_i32 63 (by omega), IntKind.wrap_i32, Nat.and_two_pow_sub_one_eq_mod q 6]
 omega
theorem or_pow (i a b : Nat) (h : b < 2 ^ i) : (2 ^ i * a) ||| b = 2 ^ i * a + b := (Nat.two_pow_add_eq_or_of_lt h a).symm
theorem i32_or128 (x : Nat) (h : x < 64) : bits .or .i32 128 (x : Int) = ((128 + x : Nat) : Int) := by
 show IntKind.i32.wrap ((BitVec.ofInt 32 ((128 : Nat) : Int) ||| BitVec.ofInt 32 (x : Int)).toNat : Int) = _
 rw [BitVec.toNat_or, ofInt_i32 x (by omega), ofInt_i32 128 (by omega), IntKind.wrap_i32, or_pow 7 1 x (by omega)]
 omega
theorem ofInt_u8 (a : Nat) (ha : a < 256) : (BitVec.ofInt 8 (a : Int)).toNat = a := by
 rw [BitVec.ofInt_natCast, BitVec.toNat_ofNat]; exact Nat.mod_eq_of_lt (by omega)
theorem u8_or (i a x : Nat) (h : x < 2 ^ i) (ha : 2 ^ i * a + x < 256) : bits .or .u8 ((2 ^ i * a : Nat) : Int) (x : Int) = ((2 ^ i * a + x : Nat) : Int) := by
 show IntKind.u8.wrap ((BitVec.ofInt 8 ((2 ^ i * a : Nat) : Int) ||| BitVec.ofInt 8 (x : Int)).toNat : Int) = _
 rw [BitVec.toNat_or, ofInt_u8 x (by omega), ofInt_u8 _ (by omega), IntKind.wrap_u8, or_pow i a x h]
 omega
theorem cls_0 (w : World) : (Instr.index 325 (.agg #[.int .i32 0, .int .u8 0, .int .i32 128, .int .u8 0, .int .i32 2048, .int .u8 192, .int .i32 65536, .int .u8 224, .int .i32 1114112, .int .u8 240]) (.int .i64 0)).run Tryz.prog w = .ok (.agg #[.int .i32 0, .int .u8 0]) w := by kernel_rfl
theorem cls_1 (w : World) : (Instr.index 325 (.agg #[.int .i32 0, .int .u8 0, .int .i32 128, .int .u8 0, .int .i32 2048, .int .u8 192, .int .i32 65536, .int .u8 224, .int .i32 1114112, .int .u8 240]) (.int .i64 1)).run Tryz.prog w = .ok (.agg #[.int .i32 128, .int .u8 0]) w := by kernel_rfl
theorem cls_2 (w : World) : (Instr.index 325 (.agg #[.int .i32 0, .int .u8 0, .int .i32 128, .int .u8 0, .int .i32 2048, .int .u8 192, .int .i32 65536, .int .u8 224, .int .i32 1114112, .int .u8 240]) (.int .i64 2)).run Tryz.prog w = .ok (.agg #[.int .i32 2048, .int .u8 192]) w := by kernel_rfl
theorem cls_3 (w : World) : (Instr.index 325 (.agg #[.int .i32 0, .int .u8 0, .int .i32 128, .int .u8 0, .int .i32 2048, .int .u8 192, .int .i32 65536, .int .u8 224, .int .i32 1114112, .int .u8 240]) (.int .i64 3)).run Tryz.prog w = .ok (.agg #[.int .i32 65536, .int .u8 224]) w := by kernel_rfl
theorem cls_4 (w : World) : (Instr.index 325 (.agg #[.int .i32 0, .int .u8 0, .int .i32 128, .int .u8 0, .int .i32 2048, .int .u8 192, .int .i32 65536, .int .u8 224, .int .i32 1114112, .int .u8 240]) (.int .i64 4)).run Tryz.prog w = .ok (.agg #[.int .i32 1114112, .int .u8 240]) w := by kernel_rfl
theorem cls_fld (b l : Int) (w : World) : (Instr.field 324 (.agg #[.int .i32 b, .int .u8 l]) 1).run Tryz.prog w = .ok (.int .u8 l) w := by kernel_rfl
def fillR : Nat -> Nat -> Array Value -> Nat × Array Value
 | 0, r, cs => (r, cs)
 | k + 1, r, cs => fillR k (r / 64) (cs.setIfInBounds (k + 1) (.int .u8 ((128 + r % 64 : Nat) : Int)))
theorem raw_end1 (m q : Nat) (cs : Array Value) (hm : m <= 1114111) (hl : lenR m = 1) (h : fillR 0 q cs = fillR 0 m (madeCells #[.int .u8 0] 1)) :
  cs.setIfInBounds 0 (.int .u8 (bits .or .u8 0 ((q : Int) % 256))) = (bs (encR m)).toArray := by
 have h1 : q = m / 1 := by
  have := congrArg Prod.fst h
  simp [fillR] at this
  omega
 have h2 : cs = (fillR 0 m (madeCells #[.int .u8 0] 1)).2 := congrArg Prod.snd h
 clear h;unfold lenR at hl
 have hr : m < 128 := by
  repeat' split at hl
  all_goals omega
 have h3 : ((q : Int) % 256) = ((q : Nat) : Int) := by omega
 have h4 := u8_or 8 0 q (by omega) (by omega)
 rw [h3, show (0 : Int) = ((2 ^ 8 * 0 : Nat) : Int) from rfl, h4, h2, h1]
 have he : encR m = [b8 (m)] := by
  unfold encR
  rw [if_pos (show m < 128 by omega)]
 have hb : bs (encR m) = [.int .u8 ((m : Nat) : Int)] := by
  rw [he]
  simp only [bs, List.map_cons, List.map_nil, b8_nat (m) (by omega)]
 have hmc : madeCells #[.int .u8 0] 1 = #[.int .u8 0] := Array.toList_inj.1 (by rw [toList_madeCells_one]; rfl)
 rw [hb, hmc]
 simp [fillR]
 all_goals omega
theorem raw_end2 (m q : Nat) (cs : Array Value) (hm : m <= 1114111) (hl : lenR m = 2) (h : fillR 0 q cs = fillR 1 m (madeCells #[.int .u8 0] 2)) :
  cs.setIfInBounds 0 (.int .u8 (bits .or .u8 192 ((q : Int) % 256))) = (bs (encR m)).toArray := by
 have h1 : q = m / 64 := by
  have := congrArg Prod.fst h
  simp [fillR] at this
  omega
 have h2 : cs = (fillR 1 m (madeCells #[.int .u8 0] 2)).2 := congrArg Prod.snd h
 clear h;unfold lenR at hl
 have hr : 128 <= m /\ m < 2048 := by
  repeat' split at hl
  all_goals omega
 have h3 : ((q : Int) % 256) = ((q : Nat) : Int) := by omega
 have h4 := u8_or 6 3 q (by omega) (by omega)
 rw [h3, show (192 : Int) = ((2 ^ 6 * 3 : Nat) : Int) from rfl, h4, h2, h1]
 have he : encR m = [b8 (192 + m / 64), b8 (128 + m % 64)] := by
  unfold encR
  rw [if_neg (show ¬ m < 128 by omega), if_pos (show m < 2048 by omega)]
 have hb : bs (encR m) = [.int .u8 ((192 + m / 64 : Nat) : Int), .int .u8 ((128 + m % 64 : Nat) : Int)] := by
  rw [he]
  simp only [bs, List.map_cons, List.map_nil, b8_nat (192 + m / 64) (by omega), b8_nat (128 + m % 64) (by omega)]
 have hmc : madeCells #[.int .u8 0] 2 = #[.int .u8 0, .int .u8 0] := Array.toList_inj.1 (by rw [toList_madeCells_one]; rfl)
 rw [hb, hmc]
 simp [fillR]
 all_goals omega
theorem raw_end3 (m q : Nat) (cs : Array Value) (hm : m <= 1114111) (hl : lenR m = 3) (h : fillR 0 q cs = fillR 2 m (madeCells #[.int .u8 0] 3)) :
  cs.setIfInBounds 0 (.int .u8 (bits .or .u8 224 ((q : Int) % 256))) = (bs (encR m)).toArray := by
 have h1 : q = m / 4096 := by
  have := congrArg Prod.fst h
  simp [fillR] at this
  omega
 have h2 : cs = (fillR 2 m (madeCells #[.int .u8 0] 3)).2 := congrArg Prod.snd h
 clear h;unfold lenR at hl
 have hr : 2048 <= m /\ m < 65536 := by
  repeat' split at hl
  all_goals omega
 have h3 : ((q : Int) % 256) = ((q : Nat) : Int) := by omega
 have h4 := u8_or 5 7 q (by omega) (by omega)
 rw [h3, show (224 : Int) = ((2 ^ 5 * 7 : Nat) : Int) from rfl, h4, h2, h1]
 have he : encR m = [b8 (224 + m / 4096), b8 (128 + m / 64 % 64), b8 (128 + m % 64)] := by
  unfold encR
  rw [if_neg (show ¬ m < 128 by omega), if_neg (show ¬ m < 2048 by omega), if_pos (show m < 65536 by omega)]
 have hb : bs (encR m) = [.int .u8 ((224 + m / 4096 : Nat) : Int), .int .u8 ((128 + m / 64 % 64 : Nat) : Int), .int .u8 ((128 + m % 64 : Nat) : Int)] := by
  rw [he]
  simp only [bs, List.map_cons, List.map_nil, b8_nat (224 + m / 4096) (by omega), b8_nat (128 + m / 64 % 64) (by omega), b8_nat (128 + m % 64) (by omega)]
 have hmc : madeCells #[.int .u8 0] 3 = #[.int .u8 0, .int .u8 0, .int .u8 0] := Array.toList_inj.1 (by rw [toList_madeCells_one]; rfl)
 rw [hb, hmc]
 simp [fillR]
 all_goals omega
theorem raw_end4 (m q : Nat) (cs : Array Value) (hm : m <= 1114111) (hl : lenR m = 4) (h : fillR 0 q cs = fillR 3 m (madeCells #[.int .u8 0] 4)) :
  cs.setIfInBounds 0 (.int .u8 (bits .or .u8 240 ((q : Int) % 256))) = (bs (encR m)).toArray := by
 have h1 : q = m / 262144 := by
  have := congrArg Prod.fst h
  simp [fillR] at this
  omega
 have h2 : cs = (fillR 3 m (madeCells #[.int .u8 0] 4)).2 := congrArg Prod.snd h
 clear h;unfold lenR at hl
 have hr : 65536 <= m := by
  repeat' split at hl
  all_goals omega
 have h3 : ((q : Int) % 256) = ((q : Nat) : Int) := by omega
 have h4 := u8_or 4 15 q (by omega) (by omega)
 rw [h3, show (240 : Int) = ((2 ^ 4 * 15 : Nat) : Int) from rfl, h4, h2, h1]
 have he : encR m = [b8 (240 + m / 262144), b8 (128 + m / 4096 % 64), b8 (128 + m / 64 % 64), b8 (128 + m % 64)] := by
  unfold encR
  rw [if_neg (show ¬ m < 128 by omega), if_neg (show ¬ m < 2048 by omega), if_neg (show ¬ m < 65536 by omega)]
 have hb : bs (encR m) = [.int .u8 ((240 + m / 262144 : Nat) : Int), .int .u8 ((128 + m / 4096 % 64 : Nat) : Int), .int .u8 ((128 + m / 64 % 64 : Nat) : Int), .int .u8 ((128 + m % 64 : Nat) : Int)] := by
  rw [he]
  simp only [bs, List.map_cons, List.map_nil, b8_nat (240 + m / 262144) (by omega), b8_nat (128 + m / 4096 % 64) (by omega), b8_nat (128 + m / 64 % 64) (by omega), b8_nat (128 + m % 64) (by omega)]
 have hmc : madeCells #[.int .u8 0] 4 = #[.int .u8 0, .int .u8 0, .int .u8 0, .int .u8 0] := Array.toList_inj.1 (by rw [toList_madeCells_one]; rfl)
 rw [hb, hmc]
 simp [fillR]
 all_goals omega
theorem raw_fin (w w1 : World) (hb1 : Below w.heap.size w w1) (cs : Array Value) (m : Nat) (h : cs = (bs (encR m)).toArray) (L : Nat) (hL : lenR m = L) (o : Obj) :
  ∃ v, Ending.returned (.slice (some ⟨w1.heap.size, 0, none⟩) L L) = .returned v /\ ((w1.alloc (.cells cs 5)).alloc o).ownsRow w.heap.size 5 1 v (lenR m) (bs (encR m)) /\ Below w.heap.size w ((w1.alloc (.cells cs 5)).alloc o) := by
 subst h hL;have h1 := (lenR_bd m)
 have hle : (bs (encR m)).length = lenR m := by rw [bs_len, encR_len]
 refine ⟨_, rfl, ?_, (hb1.alloc hb1.size _).alloc (by have := hb1.size; simp; omega) _⟩
 refine ownsRow_below (ownsRow_mono (base := w1.heap.size) ?_ hb1.size) ((Below.refl _ _).alloc (Nat.le_refl _) _)
 exact ⟨by simp [hle], .inr ⟨w1.heap.size, lenR m, _, rfl, Nat.le_refl _, World.alloc_heap_new w1 _, Nat.le_refl _, by unfold maxLen; omega, by simp [hle], by simp [hle, List.take_of_length_le]⟩⟩
theorem utf_raw (m : Nat) (w : World) (hm : m <= 1114111) :
  Calls Tryz.prog 253 #[.int .i32 m] w fun e w' => ∃ v, e = .returned v /\ w'.ownsRow w.heap.size 5 1 v (lenR m) (bs (encR m)) /\ Below w.heap.size w w' := by
 have hl := lenR_bd m
 have hmk := mk_bytes (lenR m) (by omega)
 go_enter Tryz.func253, Tryz.ntmps253
 go_wp2_with fail
 refine (utf_long m _ hm).mono ?_
 rintro e w1 ⟨rfl, hb1⟩
 go_wp2_with fail
 generalize hL : lenR m = L at *
 have hs0 : (madeCells #[Value.int .u8 0] L).size = L := by simp [madeCells]
 generalize hcs : madeCells #[Value.int .u8 0] L = cs0 at *
 go_loopw [0, 5] (fun r i wr => ∃ (k q : Nat) (cs : Array Value), k < L /\ r = .int .i32 q /\ q <= 1114111 /\ i = .int .i64 k /\ wr = w1.alloc (.cells cs 5) /\ cs.size = L /\ Hid (fillR k q cs = fillR (L - 1) m cs0)) (fun _ i _ => (intOf i).toNat)
 case atStart => exact ⟨L - 1, m, cs0, by omega, rfl, hm, (by congr 1; omega), rfl, hs0, rfl⟩
 case round =>
  obtain ⟨k, q, cs, hk, rfl, hq, rfl, rfl, hcs', hf⟩ := hrel
  have hcell : (w1.alloc (.cells cs 5)).cell? ⟨w1.heap.size, k, none⟩ = some (cs[k]'(by omega)) := by
   rw [World.cell?_alloc_at _ _ _ _ rfl]; simp
  rcases Nat.eq_zero_or_pos k with rfl | hk0
  ·rcases (show L = 1 \/ L = 2 \/ L = 3 \/ L = 4 by omega) with rfl | rfl | rfl | rfl
   ·have hix := fun w => cls_1 w
    have hfl := fun w => cls_fld 128 0 w
    go_wp2_with fail
    refine (utf_classes _).mono ?_
    rintro e w2 ⟨rfl, rfl⟩
    have hc2 := cell_alloc hcell (.cells #[.int .i32 0, .int .u8 0, .int .i32 128, .int .u8 0, .int .i32 2048, .int .u8 192, .int .i32 65536, .int .u8 224, .int .i32 1114112, .int .u8 240] 325)
    go_wp2
    go_ret
    exact raw_fin w w1 hb1 _ m (raw_end1 m q cs hm hL (hcs ▸ hf)) _ hL _
   ·have hix := fun w => cls_2 w
    have hfl := fun w => cls_fld 2048 192 w
    go_wp2_with fail
    refine (utf_classes _).mono ?_
    rintro e w2 ⟨rfl, rfl⟩
    have hc2 := cell_alloc hcell (.cells #[.int .i32 0, .int .u8 0, .int .i32 128, .int .u8 0, .int .i32 2048, .int .u8 192, .int .i32 65536, .int .u8 224, .int .i32 1114112, .int .u8 240] 325)
    go_wp2
    go_ret
    exact raw_fin w w1 hb1 _ m (raw_end2 m q cs hm hL (hcs ▸ hf)) _ hL _
   ·have hix := fun w => cls_3 w
    have hfl := fun w => cls_fld 65536 224 w
    go_wp2_with fail
    refine (utf_classes _).mono ?_
    rintro e w2 ⟨rfl, rfl⟩
    have hc2 := cell_alloc hcell (.cells #[.int .i32 0, .int .u8 0, .int .i32 128, .int .u8 0, .int .i32 2048, .int .u8 192, .int .i32 65536, .int .u8 224, .int .i32 1114112, .int .u8 240] 325)
    go_wp2
    go_ret
    exact raw_fin w w1 hb1 _ m (raw_end3 m q cs hm hL (hcs ▸ hf)) _ hL _
   ·have hix := fun w => cls_4 w
    have hfl := fun w => cls_fld 1114112 240 w
    go_wp2_with fail
    refine (utf_classes _).mono ?_
    rintro e w2 ⟨rfl, rfl⟩
    have hc2 := cell_alloc hcell (.cells #[.int .i32 0, .int .u8 0, .int .i32 128, .int .u8 0, .int .i32 2048, .int .u8 192, .int .i32 65536, .int .u8 224, .int .i32 1114112, .int .u8 240] 325)
    go_wp2
    go_ret
    exact raw_fin w w1 hb1 _ m (raw_end4 m q cs hm hL (hcs ▸ hf)) _ hL _
  ·obtain ⟨k, rfl⟩ : ∃ j, k = j + 1 := ⟨k - 1, by omega⟩
   have e1 := i32_and63 q (by omega)
   have e2 := i32_or128 (q % 64) (by omega)
   go_wp2
   go_roundw
   case rel =>
    refine ⟨k, q / 64, cs.setIfInBounds (k + 1) (.int .u8 ((128 + q % 64 : Nat) : Int)), by omega, rfl, by omega, rfl, ?_, by simp [hcs'], hf⟩
    rfl
   case measure => simp [intOf]
end
end Go.Proofs.YtoinabapaeebfaaGreatDoor
