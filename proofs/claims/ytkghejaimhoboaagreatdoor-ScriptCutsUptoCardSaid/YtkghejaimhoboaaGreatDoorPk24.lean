/- Parts of the proof of ScriptCuts: contracts of functions that it reaches, and plain lemmas. No condition of their own. -/
import Derived.Test.YtkghejaimhoboaaGreatDoorPk08
import Derived.Lib.TrailingZeros
import Derived.Test.YtkghejaimhoboaaGreatDoorPk23
import Derived.Test.YtkghejaimhoboaaGreatDoorPk21
import Derived.Test.YtkghejaimhoboaaGreatDoorPk12
import Derived.Test.YtkghejaimhoboaaGreatDoorPk09
import Derived.Test.YtkghejaimhoboaaGreatDoorPk06
import Derived.Test.YtkghejaimhoboaaGreatDoorPk10
import Derived.Deep.Cut
import Derived.Test.YtkghejaimhoboaaGreatDoorPk11
set_option linter.unusedSimpArgs false
set_option linter.unusedVariables false
set_option maxRecDepth 100000
set_option maxHeartbeats 8000000
namespace Go.Proofs.YtkghejaimhoboaaGreatDoor
open Go.RowKit Go.Shelf
section
open Go.RowKit
theorem bits_low (y : Nat) (h0 : y ≠ 0) (h : y < 2 ^ 64) :
  Lib.ctz 64 y < 64 /\ y.testBit (Lib.ctz 64 y) = true /\ (∀ j, j < Lib.ctz 64 y -> y.testBit j = false) /\ ∀ j, (y &&& (y - 1)).testBit j = (y.testBit j && decide (j ≠ Lib.ctz 64 y)) := by
 obtain ⟨m, hm, hk⟩ := Lib.ctzFrom_spec 64 y (by omega) h
 have e : Lib.ctz 64 y = Lib.ctzFrom 64 y := by simp [Lib.ctz, h0]
 rw [e]
 generalize Lib.ctzFrom 64 y = k at hm hk
 have hx : y = 2 ^ k * (2 * m + 1) + 0 := by omega
 have hp : 0 < 2 ^ k := Nat.pow_pos (by decide)
 have hx1 : y - 1 = 2 ^ k * (2 * m) + (2 ^ k - 1) := by rw [hm, Nat.mul_add, Nat.mul_one]; omega
 have hb : ∀ j, y.testBit j = if j < k then false else (2 * m + 1).testBit (j - k) := fun j => by
  rw [hx, Nat.testBit_two_pow_mul_add _ hp]; simp
 have hb1 : ∀ j, (y - 1).testBit j = if j < k then (2 ^ k - 1).testBit j else (2 * m).testBit (j - k) := fun j => by
  rw [hx1, Nat.testBit_two_pow_mul_add _ (by omega)]
 refine ⟨hk, by rw [hb]; simp [Nat.testBit_zero], fun j hj => by rw [hb, if_pos hj], fun j => ?_⟩
 rw [Nat.testBit_and, hb, hb1]
 by_cases hj : j < k
 ·simp [hj]
 ·rw [if_neg hj, if_neg hj]
  by_cases he : j = k
  ·subst he; simp [Nat.testBit_zero]
  ·obtain ⟨i, hi⟩ : ∃ i, j - k = i + 1 := ⟨j - k - 1, by omega⟩
   rw [hi, Nat.testBit_succ, Nat.testBit_succ]
   have d1 : (2 * m + 1) / 2 = m := by omega
   have d2 : 2 * m / 2 = m := by omega
   rw [d1, d2]
   simp [he]
def bitAt (W : Nat -> Nat) (n : Nat) : Bool := (W (n / 64)).testBit (n % 64)
def bitsTo (T : Nat) (W : Nat -> Nat) : List Nat := (List.range T).filter (bitAt W)
theorem bitsTo_skip (W : Nat -> Nat) (T : Nat) : ∀ d, (∀ n, T <= n -> n < T + d -> bitAt W n = false) -> bitsTo (T + d) W = bitsTo T W
 | 0, _ => rfl
 | d + 1, h => by
  have ih := bitsTo_skip W T d (fun n h1 h2 => h n h1 (by omega))
  unfold bitsTo at ih ⊢
  rw [<- Nat.add_assoc, List.range_succ, List.filter_append, ih, List.filter_cons_of_neg (by rw [h (T + d) (by omega) (by omega)]; simp)]
  simp
theorem bitsTo_take (W : Nat -> Nat) (T : Nat) (h : bitAt W T = true) : bitsTo (T + 1) W = bitsTo T W ++ [T] := by
 unfold bitsTo
 rw [List.range_succ, List.filter_append]
 simp [h]
theorem bitAt_word (W : Nat -> Nat) (k j : Nat) (hj : j < 64) : bitAt W (64 * k + j) = (W k).testBit j := by
 unfold bitAt
 rw [show (64 * k + j) / 64 = k from by omega, show (64 * k + j) % 64 = j from by omega]
theorem bitsTo_len (W : Nat -> Nat) (T : Nat) : (bitsTo T W).length <= T := by
 unfold bitsTo
 have := List.length_filter_le (bitAt W) (List.range T)
 simpa using this
end
section
structure XR where
 x : XS
 ps : List PackV
 cs : List ChangeV
def XS.rel (x : XS) (z : Int) : XR :=
 if 1 <= z /\ z <= 65535 then
  if z.toNat ∈ x.ids then ⟨{ x with ids := x.ids.erase z.toNat }, [⟨7, false, false, 0, [], [], z⟩], [⟨true, x.inr z⟩]⟩ else ⟨x, [⟨7, false, false, 0, [], [], z⟩], []⟩
 else ⟨x, [], []⟩
end
section
attribute [local go_sem] Oper.semAt_some
def LowAt (W : Nat -> Nat) (k y : Nat) (pre : List Int) : Prop := ∃ t, t <= 64 /\ pre = (bitsTo (64 * k + t) W).map Int.ofNat /\ ∀ j, j < 64 -> y.testBit j = (decide (t <= j) && (W k).testBit j)
theorem LowAt.start (W : Nat -> Nat) (k : Nat) : LowAt W k (W k) ((bitsTo (64 * k) W).map Int.ofNat) := ⟨0, by omega, by simp, fun j _ => by simp⟩
theorem LowAt.done {W : Nat -> Nat} {k : Nat} {pre : List Int} (h : LowAt W k 0 pre) : pre = (bitsTo (64 * (k + 1)) W).map Int.ofNat := by
 obtain ⟨t, ht, rfl, hb⟩ := h
 have := bitsTo_skip W (64 * k + t) (64 - t) (fun n h1 h2 => by
  obtain ⟨j, hj⟩ : ∃ j, n = 64 * k + j := ⟨n - 64 * k, by omega⟩
  subst hj;rw [bitAt_word W k j (by omega)]
  have h3 := hb j (by omega)
  rw [Nat.zero_testBit, decide_eq_true (by omega : t <= j)] at h3
  simpa using h3.symm)
 rw [show 64 * (k + 1) = 64 * k + t + (64 - t) from by omega, this]
theorem LowAt.len {W : Nat -> Nat} {k y : Nat} {pre : List Int} (h : LowAt W k y pre) (hk : k < 1024) : pre.length <= 65536 := by
 obtain ⟨t, ht, rfl, _⟩ := h
 have := bitsTo_len W (64 * k + t)
 rw [List.length_map]
 omega
theorem LowAt.next {W : Nat -> Nat} {k y : Nat} {pre : List Int} (h : LowAt W k y pre) (h0 : y ≠ 0) (hy : y < 18446744073709551616) : LowAt W k (y &&& (y - 1)) (pre ++ [(64 * (k : Int) + (Lib.ctz 64 y : Nat))]) := by
 obtain ⟨t, ht, rfl, hb⟩ := h
 obtain ⟨b1, b2, b3, b4⟩ := bits_low y h0 hy
 generalize Lib.ctz 64 y = c at b1 b2 b3 b4 ⊢
 have h2 := hb c b1
 rw [b2] at h2
 have htc : t <= c := by
  rcases Nat.lt_or_ge c t with h | h
  ·rw [decide_eq_false (by omega : ¬ t <= c)] at h2; simp at h2
  ·exact h
 have hc : bitAt W (64 * k + c) = true := by rw [bitAt_word W k c b1]; simp at h2; exact h2.2
 have hs := bitsTo_skip W (64 * k + t) (c - t) (fun n h1 h2 => by
  obtain ⟨j, hj⟩ : ∃ j, n = 64 * k + j := ⟨n - 64 * k, by omega⟩
  subst hj;rw [bitAt_word W k j (by omega)]
  have h3 := hb j (by omega)
  rw [b3 j (by omega), decide_eq_true (by omega : t <= j)] at h3
  simpa using h3.symm)
 rw [show 64 * k + t + (c - t) = 64 * k + c from by omega] at hs
 refine ⟨c + 1, by omega, ?_, fun j hj => ?_⟩
 ·rw [show 64 * k + (c + 1) = 64 * k + c + 1 from by omega, bitsTo_take W _ hc, hs, List.map_append]
  congr 1
 ·rw [b4, hb j hj]
  have hbj := b3 j
  rw [hb j hj] at hbj
  by_cases h1 : j < c
  ·have := hbj h1
   have e1 : decide (c + 1 <= j) = false := decide_eq_false (by omega)
   rw [this, e1]; rfl
  ·by_cases h2 : j = c
   ·subst h2
    have e1 : decide (j + 1 <= j) = false := decide_eq_false (by omega)
    rw [e1]; simp
   ·have e1 : decide (c + 1 <= j) = true := decide_eq_true (by omega)
    have e2 : decide (t <= j) = true := decide_eq_true (by omega)
    rw [e1, e2]
    simp [h2]
def iV (x : Int) : Value := .int .i64 x
structure ColI (w : World) (pre : List Int) (W : World) : Prop where
 below : Below w.heap.size w W
 out : ∃ v, Boxed W w.heap.size 127 v /\ W.ownsRow (w.heap.size + 3) 2 1 v pre.length (pre.map iV)
end
section
theorem SetIs.gone {W : Nat -> Nat} {ids : List Nat} (h : SetIs W ids) {z : Int} (hz : 1 <= z /\ z <= 65535) (hin : z.toNat ∈ ids) (hd : ids.Nodup) : SetIs (tog W z.toNat) (ids.erase z.toNat) := h.go (by omega) hin hd
end
section
structure R3 (w W : World) (Z : Array Value) (n : Nat) : Prop where
 g : Blk W w.heap.size Z 130
 r : ∃ rs, Blk W (w.heap.size + 1) rs 130 /\ rs.size = 22
 d : ∃ ds, Blk W (w.heap.size + 1 + n) ds 311 /\ ds.size = 2
 below : Below w.heap.size w W
theorem R3.bel {w W W' : World} {Z : Array Value} {n : Nat} (h : R3 w W Z n) (hb : Below W.heap.size W W') : R3 w W' Z n := by
 obtain ⟨g, ⟨rs, r1, r2⟩, ⟨ds, d1, d2⟩, b⟩ := h
 exact ⟨g.below hb, ⟨rs, r1.below hb, r2⟩, ⟨ds, d1.below hb, d2⟩, b.trans (hb.mono b.size)⟩
theorem R3.start (w : World) (Z Z1 d1 : Array Value) (hz : Z1.size = 22) (hd : d1.size = 2) : R3 w (((w.alloc (.cells Z 130)).alloc (.cells Z1 130)).alloc (.cells d1 311)) Z 1 := by
 refine ⟨((Blk.new w _ _).alloc _).alloc _, ⟨Z1, (Blk.new_at _ _ _ _ (by simp)).alloc _, hz⟩, ⟨d1, Blk.new_at _ _ _ _ (by simp), hd⟩, ?_⟩
 exact (((Below.refl _ w).alloc (Nat.le_refl _) _).alloc (by simp) _).alloc (by simp; omega) _
end
section
theorem R3.put {w W W' : World} {Z : Array Value} {n : Nat} (h : R3 w W Z n) (hn : n ≠ 0) {Z' : Array Value} (hb : Blk W' w.heap.size Z' 130) (hw : Wrote [w.heap.size] W W') : R3 w W' Z' n := by
 obtain ⟨g, ⟨rs, r1, r2⟩, ⟨ds, d1, d2⟩, b⟩ := h
 exact ⟨hb, ⟨rs, r1.wrote hw (by simp), r2⟩, ⟨ds, d1.wrote hw (by simp; omega), d2⟩, below_wrote b hw (by simp)⟩
end
section
def splice (cur : Array Value) (j : Nat) (cs : Array Value) : Array Value := (cur.toList.take j ++ cs.toList ++ cur.toList.drop (j + cs.size)).toArray
theorem splice_size {cur cs : Array Value} {j : Nat} (h : j + cs.size <= cur.size) : (splice cur j cs).size = cur.size := by
 unfold splice
 simp
 omega
section
variable {P : Program} {w : World}
theorem run_store_mid (t T : TypeId) (n : Nat) (hs : ∀ w, (sizeOf t).run P w = .ok n w) {b j : Nat} {cur cs : Array Value} (hb : Blk w b cur T) (h1 : cs.size = n) (h2 : j + n <= cur.size) (ho1 : ∀ v ∈ cs.toList, v.oneCell' = true) :
  (Instr.storeAt t (.pointer (some ⟨b, j, none⟩)) (.agg cs)).run P w = .ok () (w.setRow b (splice cur j cs)) := by
 have hr := run_storeCells_at P b j T cs.toList 0 cur w hb (by simp; omega) ho1
 simp only [Nat.add_zero, Array.length_toList] at hr
 have hc : (Value.agg cs).cells = cs := rfl
 unfold splice
 simp [Instr.storeAt, Instr.sureAddr, storeVar, hs, hc, h1, hr]
theorem wp_store_mid {o : Oper} {a : Act} {K : Act -> World -> Prop} {Q : Exit -> Act -> World -> Prop} (t T : TypeId) (x y : Operand) (ho : o.op = .store t x y) (n : Nat) (hs : ∀ w, (sizeOf t).run P w = .ok n w) (b j : Nat) (cur cs : Array Value)
  (hx : a.eval x = .pointer (some ⟨b, j, none⟩)) (hy : a.eval y = .agg cs) (hb : Blk w b cur T) (h1 : cs.size = n) (h2 : j + n <= cur.size) (ho1 : ∀ v ∈ cs.toList, v.oneCell' = true)
  (h : ∀ w', Blk w' b (splice cur j cs) T -> Wrote [b] w w' -> K (a.put o.dst undef) w') : o.wp P a w K Q := by
 have hr := run_store_mid (P := P) t T n hs hb h1 h2 ho1
 unfold Oper.wp execOp
 simp only [ho, hx, hy, Sem.run_bind, hr, Result.andThen_ok, Sem.run_pure]
 simp only [Oper.upon]
 exact h _ (setRow_heap w b cur _ T (0, 0) hb) (setRow_wrote b _)
theorem wpList_store_mid {ops : Array Oper} {rest : List Oper} {op : Oper} {a : Act} {Q : Exit -> Act -> World -> Prop} (hgd : op.guard = none) (t T : TypeId) (x y : Operand) (ho : op.op = .store t x y) (n : Nat) (hs : ∀ w, (sizeOf t).run P w = .ok n w) (b j : Nat) (cur cs : Array Value)
  (hx : a.eval x = .pointer (some ⟨b, j, none⟩)) (hy : a.eval y = .agg cs) (hb : Blk w b cur T) (h1 : cs.size = n) (h2 : j + n <= cur.size) (ho1 : ∀ v ∈ cs.toList, v.oneCell' = true)
  (h : ∀ w', Blk w' b (splice cur j cs) T -> Wrote [b] w w' -> wpList P ops Q rest (a.put op.dst undef) w') : wpList P ops Q (op :: rest) a w :=
 wpList_plain hgd fun _ hK => wp_store_mid t T x y ho n hs b j cur cs hx hy hb h1 h2 ho1 fun w' hb' hw' => hK _ _ (h w' hb' hw')
end
end
end Go.Proofs.YtkghejaimhoboaaGreatDoor
