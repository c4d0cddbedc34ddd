/- Parts of the proof of ScriptCuts: contracts of functions that it reaches, and plain lemmas. No condition of their own. -/
import Derived.Test.YtkghejaimhoboaaGreatDoorPk03
import Derived.IntWalk
import Derived.Laws.AppendOwnNone
import Derived.Test.YtkghejaimhoboaaGreatDoorPk01
set_option linter.unusedSimpArgs false
set_option linter.unusedVariables false
set_option maxRecDepth 100000
set_option maxHeartbeats 8000000
namespace Go.Proofs.YtkghejaimhoboaaGreatDoor
open Go.RowKit Go.Shelf
section
attribute [local go_sem] Oper.semAt_some
theorem bs_one (l : List UInt8) : ∀ u ∈ bs l, u.oneCell' = true := by
 intro u hu
 obtain ⟨x, _, rfl⟩ := List.mem_map.1 hu
 rfl
theorem append_src {P : Program} {w : World} {ops : Array Oper} {rest : List Oper} {o : Oper} {a : Act} {Q : Exit -> Act -> World -> Prop} {t e : TypeId} {z : Value} {bytes : Nat} (hgd : o.guard = none) (s x : Operand)
  (ho : o.op = .call { callee := .builtin .append, args := #[s, x], argTypes := #[t, t] }) (E : ElemT P t e z 1 bytes)
  (base : Nat) (v : Value) (n : Nat) (xs : List Value) (hs : a.eval s = v) (hown : w.ownsRow base e 1 v n xs) (ad : Addr) (m c : Nat) (ys : List Value) (hu : ∀ u ∈ ys, u.oneCell' = true)
  (hx : a.eval x = .slice (some ad) m c) (hrow : RowAt w (some ad) m c ys) (h63 : n + m <= 140737488355328) (hbytes : (n + m) * bytes <= 140737488355328) (hbase : base <= w.heap.size)
  (h : ∀ v' w', w'.ownsRow base e 1 v' (n + m) (xs ++ ys) -> w.grownBy w' v.ownBlock -> (v' = .slice none 0 0 ↔ v = .slice none 0 0 /\ m = 0) -> wpList P ops Q rest (a.put o.dst v') w') : wpList P ops Q (o :: rest) a w := by
 obtain ⟨i, hi, hz0, hz1, hz2⟩ := info_parts E.info
 refine wpList_append_own _ hgd s x t ho base e i z 1 bytes E.ht hi hz0 hz1 hz2 E.hzs (by decide) v n xs hs hown ad m c ys hx (by rw [hrow.len]; omega) ?_ hu ?_ hbytes hbase h
 ·intro j u hj
  have hjm : j < m := by have := (List.getElem?_eq_some_iff.1 hj).1; have := hrow.len; omega
  obtain ⟨b, off, ha, hc⟩ := hrow.cells j hjm
  cases ha
  rw [hj] at hc
  by_cases h0 : j = 0
  ·subst h0; simpa [Addr.add] using hc
  ·simpa [Addr.add, h0] using hc
 ·unfold maxLen; omega
theorem append_any {P : Program} {w : World} {ops : Array Oper} {rest : List Oper} {o : Oper} {a : Act} {Q : Exit -> Act -> World -> Prop} {t e : TypeId} {z : Value} {bytes : Nat} (hgd : o.guard = none) (s x : Operand)
  (ho : o.op = .call { callee := .builtin .append, args := #[s, x], argTypes := #[t, t] }) (E : ElemT P t e z 1 bytes)
  (base : Nat) (v : Value) (n : Nat) (xs : List Value) (hs : a.eval s = v) (hown : w.ownsRow base e 1 v n xs) (ad : Option Addr) (m c : Nat) (ys : List Value) (hu : ∀ u ∈ ys, u.oneCell' = true)
  (hx : a.eval x = .slice ad m c) (hrow : RowAt w ad m c ys) (h63 : n + m <= 140737488355328) (hbytes : (n + m) * bytes <= 140737488355328) (hbase : base <= w.heap.size)
  (h : ∀ v' w', w'.ownsRow base e 1 v' (n + m) (xs ++ ys) -> w.grownBy w' v.ownBlock -> wpList P ops Q rest (a.put o.dst v') w') : wpList P ops Q (o :: rest) a w := by
 cases ad with
 | some ad => exact append_src hgd s x ho E base v n xs hs hown ad m c ys hu hx hrow h63 hbytes hbase (fun v' w' h1 h2 _ => h v' w' h1 h2)
 | none =>
  obtain ⟨i, hi, hz0, hz1, hz2⟩ := info_parts E.info
  have hc := hrow.hnil rfl
  have hm : m = 0 := by have := hrow.le; omega
  have hy : ys = [] := List.eq_nil_of_length_eq_zero (by rw [hrow.len, hm])
  subst hc hm hy;refine wpList_append_own_none hgd s x t ho base e i 1 E.ht hi v n xs hs hown hx (h v w (by simpa using hown) (World.grownBy.refl w _))
def Owned (w : World) (base : Nat) : List Value -> List (List UInt8) -> Prop
 | [], [] => True
 | v :: vs, p :: ps => w.ownsRow base 5 1 v p.length (bs p) /\ Owned w base vs ps
 | _, _ => False
theorem ChainL.fn {most : Int} {l : List UInt8} {ps : List (List UInt8)} {r r' : List UInt8} (h : ChainL most l ps r) (k : ChainL most l ps r') : r = r' := by
 induction ps generalizing l with
 | nil => exact Eq.trans (Eq.symm h) k
 | cons p ps ih => exact ih h.2.2.2 k.2.2.2
theorem cutL_le (r : List UInt8) (h : fullL r = true) : cutL r <= r.length /\ 0 < cutL r := by
 obtain ⟨g1, g2, g3, g4, g5, g6, g7⟩ := readL_facts r
 simp only [fullL, Bool.and_eq_true, decide_eq_true_eq] at h
 unfold cutL
 omega
theorem ChainL.len {most : Int} {l : List UInt8} {ps : List (List UInt8)} {r : List UInt8} (h : ChainL most l ps r) : ps.length + r.length <= l.length := by
 induction ps generalizing l with
 | nil => obtain rfl : l = r := h; simp
 | cons p ps ih =>
  have h1 := ih h.2.2.2
  have h2 := cutL_le l h.2.1
  simp only [List.length_drop, List.length_cons] at *
  omega
theorem ChainL.drop {most : Int} {l : List UInt8} {ps : List (List UInt8)} {r : List UInt8} (h : ChainL most l ps r) : l.drop (l.length - r.length) = r := by
 have key : ∃ k, k <= l.length /\ r = l.drop k := by
  induction ps generalizing l with
  | nil => obtain rfl : l = r := h; exact ⟨0, Nat.zero_le _, rfl⟩
  | cons p ps ih =>
   obtain ⟨k, hk, hr⟩ := ih h.2.2.2
   have h2 := cutL_le l h.2.1
   simp only [List.length_drop] at hk
   exact ⟨cutL l + k, by omega, by rw [hr, List.drop_drop]⟩
 obtain ⟨k, hk, rfl⟩ := key
 rw [List.length_drop, show l.length - (l.length - k) = k from by omega]
theorem ChainL.last {most : Int} {l : List UInt8} {ps : List (List UInt8)} {p r r' : List UInt8} (h : ChainL most l ps r) (k : ChainL most l (ps ++ [p]) r') : errL most r = 0 := by
 induction ps generalizing l with
 | nil => obtain rfl : l = r := h; exact k.1
 | cons q ps ih => exact ih h.2.2.2 k.2.2.2
theorem Owned.snoc {w : World} {base : Nat} {vs : List Value} {ps : List (List UInt8)} {v : Value} {p : List UInt8} (h : Owned w base vs ps) (hv : w.ownsRow base 5 1 v p.length (bs p)) : Owned w base (vs ++ [v]) (ps ++ [p]) := by
 induction vs generalizing ps with
 | nil => cases ps with
  | nil => exact ⟨hv, trivial⟩
  | cons p ps => exact h.elim
 | cons v vs ih => cases ps with
  | nil => exact h.elim
  | cons p ps => exact ⟨h.1, ih h.2⟩
theorem Owned.map {w w' : World} {base base' : Nat} {vs : List Value} {ps : List (List UInt8)} (h : Owned w base vs ps) (hf : ∀ v p, w.ownsRow base 5 1 v p.length (bs p) -> w'.ownsRow base' 5 1 v p.length (bs p)) : Owned w' base' vs ps := by
 induction vs generalizing ps with
 | nil => cases ps with
  | nil => trivial
  | cons p ps => exact h
 | cons v vs ih => cases ps with
  | nil => exact h
  | cons p ps => exact ⟨hf _ _ h.1, ih h.2⟩
theorem Tryz.szB (W : World) : (sizeOf (Tryz.prog.elem 22)).run Tryz.prog W = .ok 1 W := by kernel_rfl
theorem Tryz.uelB : Tryz.prog.underlying 22 = some (.slice (Tryz.prog.elem 22)) := by kernel_rfl
theorem Owned.wrote {w w' : World} {M : List Nat} {base : Nat} {vs : List Value} {ps : List (List UInt8)} (h : Owned w base vs ps) (hw : Wrote M w w') (hM : ∀ x ∈ M, x < base) : Owned w' base vs ps := by
 induction vs generalizing ps with
 | nil => cases ps with
  | nil => trivial
  | cons p ps => exact h
 | cons v vs ih => cases ps with
  | nil => exact h
  | cons p ps => exact ⟨hw.row hM h.1, ih h.2⟩
end
section
theorem mk_bytes (n : Nat) (h : n <= 140737488355328) : ∀ w, (Instr.makeSlice 22 (.int .i64 (n : Int)) (.int .i64 (n : Int))).run Tryz.prog w = .ok (.slice (some ⟨w.heap.size, 0, none⟩) n n) (w.alloc (.cells (madeCells #[.int .u8 0] n) 5)) := by
 intro w
 obtain ⟨i, hi, hz0, hz1, hz2⟩ := info_parts Tryz.eByte.info
 have hr := run_make (P := Tryz.prog) w 22 5 i _ Tryz.eByte.ht hi hz0 .i64 .i64 n n (by omega) (by omega) (by rw [hz2]; omega) (by omega)
 simp only [Int.toNat_natCast] at hr
 rw [hr, hz1, Nat.mul_one]
 rfl
theorem ofInt_i32 (a : Nat) (ha : a < 2147483648) : (BitVec.ofInt 32 (a : Int)).toNat = a := by
 rw [BitVec.ofInt_natCast, BitVec.toNat_ofNat]; exact Nat.mod_eq_of_lt (by omega)
theorem i32_and63 (q : Nat) (h : q < 2147483648) : bits .and .i32 (q : Int) 63 = ((q % 64 : Nat) : Int) := by
 show IntKind.i32.wrap ((BitVec.ofInt 32 (q : Int) &&& BitVec.ofInt 32 ((63 : Nat) : Int)).toNat : Int) = _
 rw [BitVec.toNat_and, ofInt_i32 q h, ofInt_i32 63 (by omega), IntKind.wrap_i32, Nat.and_two_pow_sub_one_eq_mod q 6]
 omega
theorem or_pow (i a b : Nat) (h : b < 2 ^ i) : (2 ^ i * a) ||| b = 2 ^ i * a + b := (Nat.two_pow_add_eq_or_of_lt h a).symm
theorem i32_or128 (x : Nat) (h : x < 64) : bits .or .i32 128 (x : Int) = ((128 + x : Nat) : Int) := by
 show IntKind.i32.wrap ((BitVec.ofInt 32 ((128 : Nat) : Int) ||| BitVec.ofInt 32 (x : Int)).toNat : Int) = _
 rw [BitVec.toNat_or, ofInt_i32 x (by omega), ofInt_i32 128 (by omega), IntKind.wrap_i32, or_pow 7 1 x (by omega)]
 omega
theorem ofInt_u8 (a : Nat) (ha : a < 256) : (BitVec.ofInt 8 (a : Int)).toNat = a := by
 rw [BitVec.ofInt_natCast, BitVec.toNat_ofNat]; exact Nat.mod_eq_of_lt (by omega)
theorem u8_or (i a x : Nat) (h : x < 2 ^ i) (ha : 2 ^ i * a + x < 256) : bits .or .u8 ((2 ^ i * a : Nat) : Int) (x : Int) = ((2 ^ i * a + x : Nat) : Int) := by
 show IntKind.u8.wrap ((BitVec.ofInt 8 ((2 ^ i * a : Nat) : Int) ||| BitVec.ofInt 8 (x : Int)).toNat : Int) = _
 rw [BitVec.toNat_or, ofInt_u8 x (by omega), ofInt_u8 _ (by omega), IntKind.wrap_u8, or_pow i a x h]
 omega
theorem cls_0 (w : World) : (Instr.index 395 (.agg #[.int .i32 0, .int .u8 0, .int .i32 128, .int .u8 0, .int .i32 2048, .int .u8 192, .int .i32 65536, .int .u8 224, .int .i32 1114112, .int .u8 240]) (.int .i64 0)).run Tryz.prog w = .ok (.agg #[.int .i32 0, .int .u8 0]) w := by kernel_rfl
theorem cls_1 (w : World) : (Instr.index 395 (.agg #[.int .i32 0, .int .u8 0, .int .i32 128, .int .u8 0, .int .i32 2048, .int .u8 192, .int .i32 65536, .int .u8 224, .int .i32 1114112, .int .u8 240]) (.int .i64 1)).run Tryz.prog w = .ok (.agg #[.int .i32 128, .int .u8 0]) w := by kernel_rfl
theorem cls_2 (w : World) : (Instr.index 395 (.agg #[.int .i32 0, .int .u8 0, .int .i32 128, .int .u8 0, .int .i32 2048, .int .u8 192, .int .i32 65536, .int .u8 224, .int .i32 1114112, .int .u8 240]) (.int .i64 2)).run Tryz.prog w = .ok (.agg #[.int .i32 2048, .int .u8 192]) w := by kernel_rfl
theorem cls_3 (w : World) : (Instr.index 395 (.agg #[.int .i32 0, .int .u8 0, .int .i32 128, .int .u8 0, .int .i32 2048, .int .u8 192, .int .i32 65536, .int .u8 224, .int .i32 1114112, .int .u8 240]) (.int .i64 3)).run Tryz.prog w = .ok (.agg #[.int .i32 65536, .int .u8 224]) w := by kernel_rfl
theorem cls_4 (w : World) : (Instr.index 395 (.agg #[.int .i32 0, .int .u8 0, .int .i32 128, .int .u8 0, .int .i32 2048, .int .u8 192, .int .i32 65536, .int .u8 224, .int .i32 1114112, .int .u8 240]) (.int .i64 4)).run Tryz.prog w = .ok (.agg #[.int .i32 1114112, .int .u8 240]) w := by kernel_rfl
theorem cls_fld (b l : Int) (w : World) : (Instr.field 394 (.agg #[.int .i32 b, .int .u8 l]) 1).run Tryz.prog w = .ok (.int .u8 l) w := by kernel_rfl
def fillR : Nat -> Nat -> Array Value -> Nat × Array Value
 | 0, r, cs => (r, cs)
 | k + 1, r, cs => fillR k (r / 64) (cs.setIfInBounds (k + 1) (.int .u8 ((128 + r % 64 : Nat) : Int)))
theorem raw_end1 (m q : Nat) (cs : Array Value) (hm : m <= 1114111) (hl : lenR m = 1) (h : fillR 0 q cs = fillR 0 m (madeCells #[.int .u8 0] 1)) :
  cs.setIfInBounds 0 (.int .u8 (bits .or .u8 0 ((q : Int) % 256))) = (bs (encR m)).toArray := by
 have h1 : q = m / 1 := by
  have := congrArg Prod.fst h
  simp [fillR] at this
  omega
 have h2 : cs = (fillR 0 m (madeCells #[.int .u8 0] 1)).2 := congrArg Prod.snd h
 clear h;unfold lenR at hl
 have hr : m < 128 := by
  repeat' split at hl
  all_goals omega
 have h3 : ((q : Int) % 256) = ((q : Nat) : Int) := by omega
 have h4 := u8_or 8 0 q (by omega) (by omega)
 rw [h3, show (0 : Int) = ((2 ^ 8 * 0 : Nat) : Int) from rfl, h4, h2, h1]
 have he : encR m = [b8 (m)] := by
  unfold encR
  rw [if_pos (show m < 128 by omega)]
 have hb : bs (encR m) = [.int .u8 ((m : Nat) : Int)] := by
  rw [he]
  simp only [bs, List.map_cons, List.map_nil, b8_nat (m) (by omega)]
 have hmc : madeCells #[.int .u8 0] 1 = #[.int .u8 0] := Array.toList_inj.1 (by rw [toList_madeCells_one]; rfl)
 rw [hb, hmc]
 simp [fillR]
 all_goals omega
theorem raw_end2 (m q : Nat) (cs : Array Value) (hm : m <= 1114111) (hl : lenR m = 2) (h : fillR 0 q cs = fillR 1 m (madeCells #[.int .u8 0] 2)) :
  cs.setIfInBounds 0 (.int .u8 (bits .or .u8 192 ((q : Int) % 256))) = (bs (encR m)).toArray := by
 have h1 : q = m / 64 := by
  have := congrArg Prod.fst h
  simp [fillR] at this
  omega
 have h2 : cs = (fillR 1 m (madeCells #[.int .u8 0] 2)).2 := congrArg Prod.snd h
 clear h;unfold lenR at hl
 have hr : 128 <= m /\ m < 2048 := by
  repeat' split at hl
  all_goals omega
 have h3 : ((q : Int) % 256) = ((q : Nat) : Int) := by omega
 have h4 := u8_or 6 3 q (by omega) (by omega)
 rw [h3, show (192 : Int) = ((2 ^ 6 * 3 : Nat) : Int) from rfl, h4, h2, h1]
 have he : encR m = [b8 (192 + m / 64), b8 (128 + m % 64)] := by
  unfold encR
  rw [if_neg (show ¬ m < 128 by omega), if_pos (show m < 2048 by omega)]
 have hb : bs (encR m) = [.int .u8 ((192 + m / 64 : Nat) : Int), .int .u8 ((128 + m % 64 : Nat) : Int)] := by
  rw [he]
  simp only [bs, List.map_cons, List.map_nil, b8_nat (192 + m / 64) (by omega), b8_nat (128 + m % 64) (by omega)]
 have hmc : madeCells #[.int .u8 0] 2 = #[.int .u8 0, .int .u8 0] := Array.toList_inj.1 (by rw [toList_madeCells_one]; rfl)
 rw [hb, hmc]
 simp [fillR]
 all_goals omega
theorem raw_end3 (m q : Nat) (cs : Array Value) (hm : m <= 1114111) (hl : lenR m = 3) (h : fillR 0 q cs = fillR 2 m (madeCells #[.int .u8 0] 3)) :
  cs.setIfInBounds 0 (.int .u8 (bits .or .u8 224 ((q : Int) % 256))) = (bs (encR m)).toArray := by
 have h1 : q = m / 4096 := by
  have := congrArg Prod.fst h
  simp [fillR] at this
  omega
 have h2 : cs = (fillR 2 m (madeCells #[.int .u8 0] 3)).2 := congrArg Prod.snd h
 clear h;unfold lenR at hl
 have hr : 2048 <= m /\ m < 65536 := by
  repeat' split at hl
  all_goals omega
 have h3 : ((q : Int) % 256) = ((q : Nat) : Int) := by omega
 have h4 := u8_or 5 7 q (by omega) (by omega)
 rw [h3, show (224 : Int) = ((2 ^ 5 * 7 : Nat) : Int) from rfl, h4, h2, h1]
 have he : encR m = [b8 (224 + m / 4096), b8 (128 + m / 64 % 64), b8 (128 + m % 64)] := by
  unfold encR
  rw [if_neg (show ¬ m < 128 by omega), if_neg (show ¬ m < 2048 by omega), if_pos (show m < 65536 by omega)]
 have hb : bs (encR m) = [.int .u8 ((224 + m / 4096 : Nat) : Int), .int .u8 ((128 + m / 64 % 64 : Nat) : Int), .int .u8 ((128 + m % 64 : Nat) : Int)] := by
  rw [he]
  simp only [bs, List.map_cons, List.map_nil, b8_nat (224 + m / 4096) (by omega), b8_nat (128 + m / 64 % 64) (by omega), b8_nat (128 + m % 64) (by omega)]
 have hmc : madeCells #[.int .u8 0] 3 = #[.int .u8 0, .int .u8 0, .int .u8 0] := Array.toList_inj.1 (by rw [toList_madeCells_one]; rfl)
 rw [hb, hmc]
 simp [fillR]
 all_goals omega
theorem raw_end4 (m q : Nat) (cs : Array Value) (hm : m <= 1114111) (hl : lenR m = 4) (h : fillR 0 q cs = fillR 3 m (madeCells #[.int .u8 0] 4)) :
  cs.setIfInBounds 0 (.int .u8 (bits .or .u8 240 ((q : Int) % 256))) = (bs (encR m)).toArray := by
 have h1 : q = m / 262144 := by
  have := congrArg Prod.fst h
  simp [fillR] at this
  omega
 have h2 : cs = (fillR 3 m (madeCells #[.int .u8 0] 4)).2 := congrArg Prod.snd h
 clear h;unfold lenR at hl
 have hr : 65536 <= m := by
  repeat' split at hl
  all_goals omega
 have h3 : ((q : Int) % 256) = ((q : Nat) : Int) := by omega
 have h4 := u8_or 4 15 q (by omega) (by omega)
 rw [h3, show (240 : Int) = ((2 ^ 4 * 15 : Nat) : Int) from rfl, h4, h2, h1]
 have he : encR m = [b8 (240 + m / 262144), b8 (128 + m / 4096 % 64), b8 (128 + m / 64 % 64), b8 (128 + m % 64)] := by
  unfold encR
  rw [if_neg (show ¬ m < 128 by omega), if_neg (show ¬ m < 2048 by omega), if_neg (show ¬ m < 65536 by omega)]
 have hb : bs (encR m) = [.int .u8 ((240 + m / 262144 : Nat) : Int), .int .u8 ((128 + m / 4096 % 64 : Nat) : Int), .int .u8 ((128 + m / 64 % 64 : Nat) : Int), .int .u8 ((128 + m % 64 : Nat) : Int)] := by
  rw [he]
  simp only [bs, List.map_cons, List.map_nil, b8_nat (240 + m / 262144) (by omega), b8_nat (128 + m / 4096 % 64) (by omega), b8_nat (128 + m / 64 % 64) (by omega), b8_nat (128 + m % 64) (by omega)]
 have hmc : madeCells #[.int .u8 0] 4 = #[.int .u8 0, .int .u8 0, .int .u8 0, .int .u8 0] := Array.toList_inj.1 (by rw [toList_madeCells_one]; rfl)
 rw [hb, hmc]
 simp [fillR]
 all_goals omega
theorem raw_fin (w w1 : World) (hb1 : Below w.heap.size w w1) (cs : Array Value) (m : Nat) (h : cs = (bs (encR m)).toArray) (L : Nat) (hL : lenR m = L) (o : Obj) :
  ∃ v, Ending.returned (.slice (some ⟨w1.heap.size, 0, none⟩) L L) = .returned v /\ ((w1.alloc (.cells cs 5)).alloc o).ownsRow w.heap.size 5 1 v (lenR m) (bs (encR m)) /\ Below w.heap.size w ((w1.alloc (.cells cs 5)).alloc o) := by
 subst h hL;have h1 := (lenR_bd m)
 have hle : (bs (encR m)).length = lenR m := by rw [bs_len, encR_len]
 refine ⟨_, rfl, ?_, (hb1.alloc hb1.size _).alloc (by have := hb1.size; simp; omega) _⟩
 refine ownsRow_below (ownsRow_mono (base := w1.heap.size) ?_ hb1.size) ((Below.refl _ _).alloc (Nat.le_refl _) _)
 exact ⟨by simp [hle], .inr ⟨w1.heap.size, lenR m, _, rfl, Nat.le_refl _, World.alloc_heap_new w1 _, Nat.le_refl _, by unfold maxLen; omega, by simp [hle], by simp [hle, List.take_of_length_le]⟩⟩
theorem utf_raw (m : Nat) (w : World) (hm : m <= 1114111) :
  Calls Tryz.prog 353 #[.int .i32 m] w fun e w' => ∃ v, e = .returned v /\ w'.ownsRow w.heap.size 5 1 v (lenR m) (bs (encR m)) /\ Below w.heap.size w w' := by
 have hl := lenR_bd m
 have hmk := mk_bytes (lenR m) (by omega)
 go_enter Tryz.func353, Tryz.ntmps353
 go_wp2_with fail
 refine (utf_long m _ hm).mono ?_
 rintro e w1 ⟨rfl, hb1⟩
 go_wp2_with fail
 generalize hL : lenR m = L at *
 have hs0 : (madeCells #[Value.int .u8 0] L).size = L := by simp [madeCells]
 generalize hcs : madeCells #[Value.int .u8 0] L = cs0 at *
 go_loopw [0, 5] (fun r i wr => ∃ (k q : Nat) (cs : Array Value), k < L /\ r = .int .i32 q /\ q <= 1114111 /\ i = .int .i64 k /\ wr = w1.alloc (.cells cs 5) /\ cs.size = L /\ Hid (fillR k q cs = fillR (L - 1) m cs0)) (fun _ i _ => (intOf i).toNat)
 case atStart => exact ⟨L - 1, m, cs0, by omega, rfl, hm, (by congr 1; omega), rfl, hs0, rfl⟩
 case round =>
  obtain ⟨k, q, cs, hk, rfl, hq, rfl, rfl, hcs', hf⟩ := hrel
  have hcell : (w1.alloc (.cells cs 5)).cell? ⟨w1.heap.size, k, none⟩ = some (cs[k]'(by omega)) := by
   rw [World.cell?_alloc_at _ _ _ _ rfl]; simp
  rcases Nat.eq_zero_or_pos k with rfl | hk0
  ·rcases (show L = 1 \/ L = 2 \/ L = 3 \/ L = 4 by omega) with rfl | rfl | rfl | rfl
   ·have hix := fun w => cls_1 w
    have hfl := fun w => cls_fld 128 0 w
    go_wp2_with fail
    refine (utf_classes _).mono ?_
    rintro e w2 ⟨rfl, rfl⟩
    have hc2 := cell_alloc hcell (.cells #[.int .i32 0, .int .u8 0, .int .i32 128, .int .u8 0, .int .i32 2048, .int .u8 192, .int .i32 65536, .int .u8 224, .int .i32 1114112, .int .u8 240] 395)
    go_wp2
    go_ret
    exact raw_fin w w1 hb1 _ m (raw_end1 m q cs hm hL (hcs ▸ hf)) _ hL _
   ·have hix := fun w => cls_2 w
    have hfl := fun w => cls_fld 2048 192 w
    go_wp2_with fail
    refine (utf_classes _).mono ?_
    rintro e w2 ⟨rfl, rfl⟩
    have hc2 := cell_alloc hcell (.cells #[.int .i32 0, .int .u8 0, .int .i32 128, .int .u8 0, .int .i32 2048, .int .u8 192, .int .i32 65536, .int .u8 224, .int .i32 1114112, .int .u8 240] 395)
    go_wp2
    go_ret
    exact raw_fin w w1 hb1 _ m (raw_end2 m q cs hm hL (hcs ▸ hf)) _ hL _
   ·have hix := fun w => cls_3 w
    have hfl := fun w => cls_fld 65536 224 w
    go_wp2_with fail
    refine (utf_classes _).mono ?_
    rintro e w2 ⟨rfl, rfl⟩
    have hc2 := cell_alloc hcell (.cells #[.int .i32 0, .int .u8 0, .int .i32 128, .int .u8 0, .int .i32 2048, .int .u8 192, .int .i32 65536, .int .u8 224, .int .i32 1114112, .int .u8 240] 395)
    go_wp2
    go_ret
    exact raw_fin w w1 hb1 _ m (raw_end3 m q cs hm hL (hcs ▸ hf)) _ hL _
   ·have hix := fun w => cls_4 w
    have hfl := fun w => cls_fld 1114112 240 w
    go_wp2_with fail
    refine (utf_classes _).mono ?_
    rintro e w2 ⟨rfl, rfl⟩
    have hc2 := cell_alloc hcell (.cells #[.int .i32 0, .int .u8 0, .int .i32 128, .int .u8 0, .int .i32 2048, .int .u8 192, .int .i32 65536, .int .u8 224, .int .i32 1114112, .int .u8 240] 395)
    go_wp2
    go_ret
    exact raw_fin w w1 hb1 _ m (raw_end4 m q cs hm hL (hcs ▸ hf)) _ hL _
  ·obtain ⟨k, rfl⟩ : ∃ j, k = j + 1 := ⟨k - 1, by omega⟩
   have e1 := i32_and63 q (by omega)
   have e2 := i32_or128 (q % 64) (by omega)
   go_wp2
   go_roundw
   case rel =>
    refine ⟨k, q / 64, cs.setIfInBounds (k + 1) (.int .u8 ((128 + q % 64 : Nat) : Int)), by omega, rfl, by omega, rfl, ?_, by simp [hcs'], hf⟩
    rfl
   case measure => simp [intOf]
end
end Go.Proofs.YtkghejaimhoboaaGreatDoor
