/- Parts of the proof of ScriptCuts: contracts of functions that it reaches, and plain lemmas. No condition of their own. -/
import Derived.WalkKit
import Derived.WalkSpells
import Derived.WalkLawsBesides
import Derived.Deep.LoopGhost
import Derived.RangeFuncNested
import Derived.RangeFuncBound
import Derived.RangeFuncCalls
import Derived.RangeFuncLeaves
import Derived.OwnWalkIn
import Derived.Shelf.Abstract
import Derived.Shelf.RegionOpen
import Derived.TacticsInMore
import Derived.LoopNIn
import Derived.LoopIn
import Derived.ScopeJumps
import Derived.WalkMore
import Derived.BigQuiet
import Derived.Deep.QuietTactic
import Derived.Deep.RegionWith
import Derived.Test.YtkghejaimhoboaaGreatDoorProg
set_option linter.unusedSimpArgs false
set_option linter.unusedVariables false
set_option maxRecDepth 100000
set_option maxHeartbeats 8000000
namespace Go.Proofs.YtkghejaimhoboaaGreatDoor
open Go.RowKit Go.Shelf
section
theorem hid {p : Prop} (h : p) : Hid p := h
def bs (l : List UInt8) : List Value := l.map fun x => .int .u8 x.toNat
def ns (k : IntKind) (l : List Int) : List Value := l.map (.int k)
structure RowAt (w : World) (a : Option Addr) (n cap : Nat) (cs : List Value) : Prop where
 len : cs.length = n
 le : n <= cap
 max : cap <= maxLen
 hnil : a = none -> cap = 0
 cells : ∀ i, i < n -> ∃ b off, a = some ⟨b, off, none⟩ /\ w.cell? ⟨b, off + i, none⟩ = cs[i]?
theorem bs_len (l : List UInt8) : (bs l).length = l.length := by simp [bs]
theorem ns_len (k : IntKind) (l : List Int) : (ns k l).length = l.length := by simp [ns]
theorem bs_get (l : List UInt8) (i : Nat) (h : i < l.length) : (bs l)[i]? = some (.int .u8 ((l[i]?.getD 0).toNat : Int)) := by
 simp [bs, List.getElem?_eq_getElem h]
theorem ns_get (k : IntKind) (l : List Int) (i : Nat) (h : i < l.length) : (ns k l)[i]? = some (.int k (l[i]?.getD 0)) := by
 simp [ns, List.getElem?_eq_getElem h]
theorem RowAt.byte {w : World} {a : Option Addr} {n cap : Nat} {l : List UInt8} (h : RowAt w a n cap (bs l)) {i : Nat} (hi : i < n) :
  ∃ b off, a = some ⟨b, off, none⟩ /\ w.cell? ⟨b, off + i, none⟩ = some (.int .u8 ((l[i]?.getD 0).toNat : Int)) := by
 obtain ⟨b, off, ha, hc⟩ := h.cells i hi
 exact ⟨b, off, ha, hc.trans (bs_get l i (by have := h.len; rw [bs_len] at this; omega))⟩
theorem RowAt.num {w : World} {a : Option Addr} {n cap : Nat} {k : IntKind} {l : List Int} (h : RowAt w a n cap (ns k l)) {i : Nat} (hi : i < n) :
  ∃ b off, a = some ⟨b, off, none⟩ /\ w.cell? ⟨b, off + i, none⟩ = some (.int k (l[i]?.getD 0)) := by
 obtain ⟨b, off, ha, hc⟩ := h.cells i hi
 exact ⟨b, off, ha, hc.trans (ns_get k l i (by have := h.len; rw [ns_len] at this; omega))⟩
theorem RowAt.empty (w : World) : RowAt w none 0 0 [] := ⟨rfl, Nat.le_refl _, Nat.zero_le _, fun _ => rfl, fun i hi => absurd hi (Nat.not_lt_zero _)⟩
theorem cell_lt {w : World} {p : Addr} {v : Value} (h : w.cell? p = some v) : p.block < w.heap.size := by
 unfold World.cell? at h
 by_cases hlt : p.block < w.heap.size
 ·exact hlt
 ·rw [Array.getElem?_eq_none (by omega)] at h; simp at h
theorem RowAt.below {w w' : World} {a : Option Addr} {n cap : Nat} {cs : List Value} (h : RowAt w a n cap cs) (hb : Below w.heap.size w w') : RowAt w' a n cap cs :=
 ⟨h.len, h.le, h.max, h.hnil, fun i hi => by
  obtain ⟨b, off, ha, hc⟩ := h.cells i hi
  have hs : w.cell? ⟨b, off + i, none⟩ = some (cs[i]'(by have := h.len; omega)) := by rw [hc]; exact List.getElem?_eq_getElem _
  exact ⟨b, off, ha, (hb.cell (p := ⟨b, off + i, none⟩) (cell_lt hs)).trans hc⟩⟩
theorem RowAt.of_own {w : World} {base : Nat} {e : TypeId} {v : Value} {n : Nat} {xs : List Value} (h : w.ownsRow base e 1 v n xs) :
  ∃ a cap, v = .slice a n cap /\ RowAt w a n cap xs := by
 obtain ⟨hl, ⟨rfl, rfl⟩ | ⟨g, cap, cur, rfl, hb, hg, hn, hm, hc, ht⟩⟩ := h
 ·refine ⟨none, 0, rfl, ?_⟩
  have : xs = [] := List.eq_nil_of_length_eq_zero (by simpa using hl)
  subst this; exact RowAt.empty w
 ·refine ⟨_, _, rfl, by simpa using hl, hn, hm, (fun e => by cases e), fun i hi => ⟨g, 0, rfl, ?_⟩⟩
  have h1 : cur.size = cap := by simpa using hc
  have hlt : i < cur.size := by omega
  have hx : xs[i]? = some cur[i] := by
   rw [<- ht, List.getElem?_take_of_lt (by simpa using hi)]; simp [hlt]
  rw [hx]
  simp [World.cell?, hg, hlt]
theorem RowAt.new (w : World) (cs : Array Value) (T : TypeId) (fz : Nat × Nat) (h : cs.size <= maxLen) : RowAt (w.alloc (.cells cs T fz)) (some ⟨w.heap.size, 0, none⟩) cs.size cs.size cs.toList :=
 ⟨by simp, Nat.le_refl _, h, (fun e => by cases e), fun i hi => ⟨w.heap.size, 0, rfl, by
  have h1 := World.alloc_heap_new w (.cells cs T fz)
  unfold World.cell?
  dsimp only
  rw [h1]
  simp [hi]⟩⟩
theorem RowAt.take {w : World} {a : Option Addr} {n cap : Nat} {cs : List Value} (h : RowAt w a n cap cs) (k : Nat) (hk : k <= n) : RowAt w a k cap (cs.take k) :=
 ⟨by have := h.len; simp; omega, by have := h.le; omega, h.max, h.hnil, fun i hi => by
  obtain ⟨b, off, ha, hc⟩ := h.cells i (by omega)
  exact ⟨b, off, ha, by rw [hc, List.getElem?_take_of_lt hi]⟩⟩
theorem RowAt.sub {w : World} {b off : Nat} {n cap : Nat} {cs : List Value} (h : RowAt w (some ⟨b, off, none⟩) n cap cs) {i j : Nat} (hij : i <= j) (hj : j <= n) {a' : Option Addr} {n' cap' : Nat}
  (ha : i < cap -> a' = some ⟨b, off + i, none⟩) (hn : n' = j - i) (hc : cap' = cap - i) : RowAt w a' n' cap' ((cs.take j).drop i) := by
 subst hn hc
 refine ⟨by have := h.len; simp; omega, by have := h.le; omega, by have := h.max; omega, fun e => by
  rcases Nat.lt_or_ge i cap with hlt | hge
  ·rw [ha hlt] at e; cases e
  ·omega, fun k hk => ?_⟩
 obtain ⟨b', off', hb, hcell⟩ := h.cells (i + k) (by omega)
 cases hb
 refine ⟨b, off + i, ha (by have := h.le; omega), ?_⟩
 rw [Nat.add_assoc, hcell, List.getElem?_drop, List.getElem?_take_of_lt (by omega)]
theorem bs_take (l : List UInt8) (k : Nat) : (bs l).take k = bs (l.take k) := by simp [bs]
theorem bs_drop (l : List UInt8) (k : Nat) : (bs l).drop k = bs (l.drop k) := by simp [bs]
theorem cell_alloc {w : World} {p : Addr} {v : Value} (h : w.cell? p = some v) (o : Obj) : (w.alloc o).cell? p = some v :=
 (((Below.refl w.heap.size w).alloc (Nat.le_refl _) o).cell (p := p) (cell_lt h)).trans h
theorem RowAt.alloc {w : World} {a : Option Addr} {n cap : Nat} {cs : List Value} (h : RowAt w a n cap cs) (o : Obj) : RowAt (w.alloc o) a n cap cs :=
 h.below ((Below.refl _ _).alloc (Nat.le_refl _) o)
theorem ownsRow_mono {w : World} {base base' : Nat} {e : TypeId} {size : Nat} {v : Value} {n : Nat} {xs : List Value} (h : w.ownsRow base e size v n xs) (hb : base' <= base) :
  w.ownsRow base' e size v n xs := by
 obtain ⟨hl, h | ⟨g, cap, cur, rfl, hg, h⟩⟩ := h
 ·exact ⟨hl, .inl h⟩
 ·exact ⟨hl, .inr ⟨g, cap, cur, rfl, by omega, h⟩⟩
theorem ownsRow_below {w w' : World} {base : Nat} {e : TypeId} {size : Nat} {v : Value} {n : Nat} {xs : List Value} (h : w.ownsRow base e size v n xs) (hb : Below w.heap.size w w') :
  w'.ownsRow base e size v n xs := by
 obtain ⟨hl, h | ⟨g, cap, cur, rfl, hg, hh, h⟩⟩ := h
 ·exact ⟨hl, .inl h⟩
 ·exact ⟨hl, .inr ⟨g, cap, cur, rfl, hg, (hb.block g (Array.getElem?_eq_some_iff.1 hh).1).trans hh, h⟩⟩
theorem boxed_below {w w' : World} {B : Nat} {t : TypeId} {v : Value} (h : Boxed w B t v) (hb : Below w.heap.size w w') : Boxed w' B t v :=
 (hb.block B h.lt).trans h
theorem block_not_row {W : World} {B : Nat} {c : Array Value} {t e : TypeId} {f : Nat × Nat} (h : W.heap[B]? = some (.cells c t f)) (hte : t ≠ e) {base size k : Nat} {v : Value} {xs : List Value} (hr : W.ownsRow base e size v k xs) : some B ≠ v.ownBlock := by
 obtain ⟨_, ⟨rfl, _⟩ | ⟨g, cap, cur, rfl, _, hg, _⟩⟩ := hr
 ·simp [Value.ownBlock]
 ·intro he
  simp only [Value.ownBlock, Option.some.injEq] at he
  subst he;rw [h] at hg
  cases hg
  exact hte rfl
/-! ### x[i:j], whatever the address -/
def cutA (a : Option Addr) (cap i : Nat) : Option Addr := if cap = i then a else a.map (·.add i)
theorem RowAt.cut {w : World} {a : Option Addr} {n cap : Nat} {cs : List Value} (h : RowAt w a n cap cs) {i j : Nat} (hij : i <= j) (hj : j <= n) : RowAt w (cutA a cap i) (j - i) (cap - i) ((cs.take j).drop i) := by
 refine ⟨by have := h.len; simp; omega, by have := h.le; omega, by have := h.max; omega, fun e => by
  have : a = none := by
   unfold cutA at e
   split at e
   ·exact e
   ·simpa using e
  rw [h.hnil this]; exact Nat.zero_sub _, fun k hk => ?_⟩
 obtain ⟨b, off, hb, hcell⟩ := h.cells (i + k) (by omega)
 subst hb;have hne : cap ≠ i := by have := h.le; omega
 refine ⟨b, off + i, ?_, ?_⟩
 ·unfold cutA
  rw [if_neg hne]
  by_cases h0 : i = 0
  ·subst h0; simp [Addr.add]
  ·simp [Addr.add, h0]
 ·rw [Nat.add_assoc, hcell, List.getElem?_drop, List.getElem?_take_of_lt (by omega)]
theorem RowAt.from {w : World} {a : Option Addr} {n cap : Nat} {cs : List Value} (h : RowAt w a n cap cs) {i : Nat} (hi : i <= n) : RowAt w (cutA a cap i) (n - i) (cap - i) (cs.drop i) := by
 have h1 := h.cut hi (Nat.le_refl n)
 rwa [List.take_of_length_le (by have := h.len; omega)] at h1
theorem run_cut_l {P : Program} {t : TypeId} (ht : P.underlying t = some (.slice (P.elem t))) (hs : ∀ W, (sizeOf (P.elem t)).run P W = .ok 1 W) (a : Option Addr) (n cap : Nat) (i : Int) (i' : Nat) (hi : i = i') (hin : i' <= n) (W : World) :
  (Instr.slice t (.slice a n cap) (some (.int .i64 i)) none none).run P W = .ok (.slice (cutA a cap i') (n - i') (cap - i')) W := by
 subst hi;rw [run_slice_l W t a n cap ht .i64 _ (by omega) (by omega), hs]
 simp [Result.andThen, sliced, cutA]
/-! ### Append -/
structure ElemT (P : Program) (t e : TypeId) (z : Value) (size bytes : Nat) : Prop where
 ht : P.underlying t = some (.slice e)
 info : (P.info? e).map (fun i => (i.zero, i.size, i.bytes)) = some (some z, size, bytes)
 hzs : z.cells.size = size
theorem grownBy_trans {a b c : World} {row : Option Nat} (h : a.grownBy b none) (k : b.grownBy c row) : a.grownBy c row :=
 ⟨k.os.trans h.os, k.tape.trans h.tape, k.output.trans h.output, Nat.le_trans h.size k.size, fun i hi hr => (k.block i (Nat.lt_of_lt_of_le hi h.size) hr).trans (h.block i hi (by simp))⟩
theorem wp_append_one {P : Program} {w : World} {o : Oper} {a : Act} {K : Act -> World -> Prop} {Q : Exit -> Act -> World -> Prop} {t e : TypeId} {z : Value} {bytes : Nat} (s x : Operand)
  (ho : o.op = .call { callee := .builtin .append, args := #[s, x], argTypes := #[t, t] }) (E : ElemT P t e z 1 bytes)
  (base : Nat) (v : Value) (n : Nat) (xs : List Value) (hs : a.eval s = v) (hown : w.ownsRow base e 1 v n xs) (u : Value) (hu : u.oneCell' = true) {T : TypeId}
  (hx : a.eval x = .slice (some ⟨w.heap.size, 0, none⟩) 1 1) (h63 : n < 140737488355328) (hbytes : (n + 1) * bytes <= 140737488355328) (hbase : base <= w.heap.size)
  (h : ∀ v' w', w'.ownsRow base e 1 v' (n + 1) (xs ++ [u]) -> w.grownBy w' v.ownBlock -> K (a.put o.dst v') w') : o.wp P a (w.alloc (.cells #[u] T)) K Q := by
 obtain ⟨i, hi, hz0, hz1, hz2⟩ := info_parts E.info
 refine wp_append_own _ s x t ho base e i z 1 bytes E.ht hi hz0 hz1 hz2 E.hzs (by decide) v n xs hs (hown.alloc _) ⟨w.heap.size, 0, none⟩ 1 1 [u] hx rfl ?_ ?_ ?_ hbytes ?_ ?_
 ·intro j u' hj
  match j, hj with
  | 0, hj => simp at hj; subst hj; exact cell_one_new _ _ _ 0 _ (by simp)
 ·intro u' h'; simp at h'; subst h'; exact hu
 ·unfold maxLen; omega
 ·simp; omega
 ·intro v' w' h1 h2 _
  exact h v' w' h1 (grownBy_trans (World.grownBy_alloc w _ none) h2)
theorem append_one {P : Program} {w : World} {ops : Array Oper} {rest : List Oper} {o : Oper} {a : Act} {Q : Exit -> Act -> World -> Prop} {t e : TypeId} {z : Value} {bytes : Nat} (hgd : o.guard = none) (s x : Operand)
  (ho : o.op = .call { callee := .builtin .append, args := #[s, x], argTypes := #[t, t] }) (E : ElemT P t e z 1 bytes)
  (base : Nat) (v : Value) (n : Nat) (xs : List Value) (hs : a.eval s = v) (hown : w.ownsRow base e 1 v n xs) (u : Value) (hu : u.oneCell' = true) {T : TypeId}
  (hx : a.eval x = .slice (some ⟨w.heap.size, 0, none⟩) 1 1) (h63 : n < 140737488355328) (hbytes : (n + 1) * bytes <= 140737488355328) (hbase : base <= w.heap.size)
  (h : ∀ v' w', w'.ownsRow base e 1 v' (n + 1) (xs ++ [u]) -> w.grownBy w' v.ownBlock -> wpList P ops Q rest (a.put o.dst v') w') : wpList P ops Q (o :: rest) a (w.alloc (.cells #[u] T)) :=
 wpList_plain hgd fun _ hK => wp_append_one s x ho E base v n xs hs hown u hu hx h63 hbytes hbase fun v' w' h1 h2 => hK _ _ (h v' w' h1 h2)
def idxOf {α : Type} (p : α -> Bool) : List α -> Int
 | [] => -1
 | x :: l => if p x then 0 else (let r := idxOf p l; if r < 0 then -1 else r + 1)
theorem idxOf_none {α : Type} (p : α -> Bool) (l : List α) (h : ∀ x ∈ l, p x = false) : idxOf p l = -1 := by
 induction l with
 | nil => rfl
 | cons x l ih => simp [idxOf, h x (by simp), ih (fun y hy => h y (by simp [hy]))]
theorem idxOf_at {α : Type} (p : α -> Bool) (l : List α) (k : Nat) (hk : k < l.length) (h : ∀ j (hj : j < k), p (l[j]'(by omega)) = false) (hp : p l[k] = true) : idxOf p l = k := by
 induction l generalizing k with
 | nil => simp at hk
 | cons x l ih =>
  cases k with
  | zero => simp at hp; simp [idxOf, hp]
  | succ k =>
   have h0 := h 0 (by omega)
   simp at h0
   have := ih k (by simpa using hk) (fun j hj => by simpa using h (j + 1) (by omega)) (by simpa using hp)
   simp [idxOf, h0, this]; omega
theorem idxOf_lt {α : Type} (p : α -> Bool) (l : List α) : idxOf p l < l.length /\ -1 <= idxOf p l := by
 induction l with
 | nil => simp [idxOf]
 | cons x l ih =>
  simp only [idxOf, List.length_cons]
  split
  ·omega
  ·split <;> omega
/-! ### A scope whose gotos all lead forward to one label -/
def exitFwd (P : Program) (l : Nat) (rest : Code) (Q : Exit -> Act -> World -> Prop) : Exit -> Act -> World -> Prop
 | .goto l', a, w => l' = l /\ rest.wp P (Exit.noGoto Q) a w
 | .normal, a, w => Q .normal a w
 | .exit i, a, w => Q (.exit i) a w
 | .ret, a, w => Q .ret a w
 | .panic c, a, w => Q (.panic c) a w
 | .outgrown, a, w => Q .outgrown a w
section
variable {P : Program} {l : Nat} {rest : Code} {Q : Exit -> Act -> World -> Prop} {a : Act} {w : World}
@[go_sem] theorem exitFwd_normal : exitFwd P l rest Q .normal a w = Q .normal a w := rfl
@[go_sem] theorem exitFwd_exit (i : Nat) : exitFwd P l rest Q (.exit i) a w = Q (.exit i) a w := rfl
@[go_sem] theorem exitFwd_ret : exitFwd P l rest Q .ret a w = Q .ret a w := rfl
@[go_sem] theorem exitFwd_panic (c : List PanicEntry) : exitFwd P l rest Q (.panic c) a w = Q (.panic c) a w := rfl
theorem wp_scope_fwd {c : Code} (l : Nat) (hf : findLabel c l = some rest) (h : c.wp P (exitFwd P l rest Q) a w) : (Code.scope c).wp P Q a w := by
 refine wp_scope_jumps l (fun a w => rest.wp P (Exit.noGoto Q) a w) (fun _ _ => 0) hf ?_ ?_
 ·refine wp_mono h ?_
  intro e a' w' hq
  cases e <;> exact hq
 ·intro a w hJ
  refine wp_mono hJ ?_
  intro e a' w' hq
  cases e with
  | goto l' => exact absurd hq (by simp [Exit.noGoto])
  | normal => exact hq
  | exit i => exact hq
  | ret => exact hq
  | panic c => exact hq
  | outgrown => exact hq
end
end
section
def mayR (r : Int) : Bool := decide (0 <= r) && decide (r <= 1114111) && (decide (r < 55296) || decide (57343 < r))
theorem mayR_iff (r : Int) : mayR r = true ↔ 0 <= r /\ r <= 1114111 /\ (r < 55296 \/ 57343 < r) := by simp [mayR, and_assoc]
def b8 (n : Nat) : UInt8 := UInt8.ofNat n
theorem b8_nat (n : Nat) (h : n < 256) : (b8 n).toNat = n := by unfold b8; simp; omega
def encR (r : Nat) : List UInt8 :=
 if r < 128 then [b8 r]
 else if r < 2048 then [b8 (192 + r / 64), b8 (128 + r % 64)]
 else if r < 65536 then [b8 (224 + r / 4096), b8 (128 + r / 64 % 64), b8 (128 + r % 64)]
 else [b8 (240 + r / 262144), b8 (128 + r / 4096 % 64), b8 (128 + r / 64 % 64), b8 (128 + r % 64)]
def lenR (r : Nat) : Nat := if r < 128 then 1 else if r < 2048 then 2 else if r < 65536 then 3 else 4
theorem encR_len (r : Nat) : (encR r).length = lenR r := by
 unfold encR lenR
 repeat' split
 all_goals simp
theorem lenR_bd (r : Nat) : 1 <= lenR r /\ lenR r <= 4 := by unfold lenR; (repeat' split) <;> omega
def at8 (s : List UInt8) (i : Nat) : Nat := (s[i]?.getD 0).toNat
theorem at8_lt (s : List UInt8) (i : Nat) : at8 s i < 256 := (s[i]?.getD 0).toNat_lt
def valR (n : Nat) (s : List UInt8) : Nat :=
 match n with
 | 1 => at8 s 0
 | 2 => at8 s 0 % 64 * 64 + at8 s 1 % 64
 | 3 => (at8 s 0 % 32 * 64 + at8 s 1 % 64) * 64 + at8 s 2 % 64
 | 4 => ((at8 s 0 % 16 * 64 + at8 s 1 % 64) * 64 + at8 s 2 % 64) * 64 + at8 s 3 % 64
 | _ => 0
def okR (n : Nat) (s : List UInt8) : Bool := decide (n <= s.length) && decide (valR n s ≠ 0) && mayR (valR n s) && (encR (valR n s) == s.take n)
def firstF (s : List UInt8) : Nat × Nat :=
 if okR 1 s then (valR 1 s, 1) else if okR 2 s then (valR 2 s, 2) else if okR 3 s then (valR 3 s, 3) else if okR 4 s then (valR 4 s, 4) else (0, 0)
theorem valR_lt (n : Nat) (s : List UInt8) : valR n s < 4194304 := by
 have h0 := at8_lt s 0
 unfold valR
 split <;> omega
theorem okR_iff (n : Nat) (s : List UInt8) : okR n s = true ↔ n <= s.length /\ valR n s ≠ 0 /\ mayR (valR n s) = true /\ encR (valR n s) = s.take n := by
 simp [okR, and_assoc]
theorem okR_len {n : Nat} {s : List UInt8} (h : okR n s = true) : lenR (valR n s) = n := by
 obtain ⟨h1, _, _, h4⟩ := (okR_iff n s).1 h
 rw [<- encR_len, h4, List.length_take]; omega
theorem firstF_spec (s : List UInt8) : firstF s = (0, 0) \/ (∃ r n, firstF s = (r, n) /\ r ≠ 0 /\ mayR r = true /\ n = lenR r /\ n <= s.length /\ encR r = s.take n) := by
 have key : ∀ n, okR n s = true -> ∃ r m, ((valR n s, n) : Nat × Nat) = (r, m) /\ r ≠ 0 /\ mayR r = true /\ m = lenR r /\ m <= s.length /\ encR r = s.take m := fun n h => by
  obtain ⟨h1, h2, h3, h4⟩ := (okR_iff n s).1 h
  exact ⟨_, _, rfl, h2, h3, (okR_len h).symm, h1, h4⟩
 unfold firstF
 split
 ·exact .inr (key 1 (by assumption))
 ·split
  ·exact .inr (key 2 (by assumption))
  ·split
   ·exact .inr (key 3 (by assumption))
   ·split
    ·exact .inr (key 4 (by assumption))
    ·exact .inl rfl
def runesF : Nat -> List UInt8 -> Nat -> List Nat × Option Nat
 | 0, _, _ => ([], none)
 | f + 1, s, p =>
  if s = [] then ([], none)
  else if (firstF s).2 = 0 \/ 65535 < p + (firstF s).2 then ([], some p)
  else ((firstF s).1 :: (runesF f (s.drop (firstF s).2) (p + (firstF s).2)).1, (runesF f (s.drop (firstF s).2) (p + (firstF s).2)).2)
def runesL (s : List UInt8) (p : Nat) : List Nat × Option Nat := runesF s.length s p
theorem firstF_le (s : List UInt8) : (firstF s).2 <= s.length := by
 rcases firstF_spec s with h | ⟨r, n, h, _, _, _, h5, _⟩ <;> rw [h] <;> simp <;> omega
theorem runesF_fuel (f : Nat) (s : List UInt8) (p : Nat) (h : s.length <= f) : runesF f s p = runesF s.length s p := by
 induction f using Nat.strongRecOn generalizing s p with
 | _ f ih =>
  cases f with
  | zero =>
   have : s.length = 0 := by omega
   rw [this]
  | succ f =>
   by_cases hs : s = []
   ·subst hs; simp [runesF]
   ·have hl : 0 < s.length := List.length_pos_iff.2 hs
    obtain ⟨k, hk⟩ : ∃ k, s.length = k + 1 := ⟨s.length - 1, by omega⟩
    rw [hk]
    simp only [runesF, if_neg hs]
    split
    ·rfl
    ·rename_i hbad
     have h1 := firstF_le s
     have h2 : 0 < (firstF s).2 := by omega
     have e1 := ih f (by omega) (s.drop (firstF s).2) (p + (firstF s).2) (by simp; omega)
     have e2 := ih k (by omega) (s.drop (firstF s).2) (p + (firstF s).2) (by simp; omega)
     rw [e1, e2]
def badR (s : List UInt8) (p : Nat) : Bool := decide ((firstF s).2 = 0) || decide (65535 < p + (firstF s).2)
theorem runesL_nil (p : Nat) : runesL [] p = ([], none) := rfl
theorem runesL_bad (s : List UInt8) (p : Nat) (hs : s ≠ []) (h : badR s p = true) : runesL s p = ([], some p) := by
 obtain ⟨k, hk⟩ : ∃ k, s.length = k + 1 := ⟨s.length - 1, by have := List.length_pos_iff.2 hs; omega⟩
 unfold runesL
 rw [hk]
 simp only [runesF, if_neg hs]
 rw [if_pos (by simpa [badR] using h)]
theorem runesL_good (s : List UInt8) (p : Nat) (hs : s ≠ []) (h : badR s p = false) :
  runesL s p = ((firstF s).1 :: (runesL (s.drop (firstF s).2) (p + (firstF s).2)).1, (runesL (s.drop (firstF s).2) (p + (firstF s).2)).2) := by
 obtain ⟨k, hk⟩ : ∃ k, s.length = k + 1 := ⟨s.length - 1, by have := List.length_pos_iff.2 hs; omega⟩
 have hb : ¬ ((firstF s).2 = 0 \/ 65535 < p + (firstF s).2) := by
  intro hb
  have : badR s p = true := by simpa [badR] using hb
  rw [h] at this; cases this
 have e := runesF_fuel k (s.drop (firstF s).2) (p + (firstF s).2) (by simp; omega)
 unfold runesL
 rw [hk]
 simp only [runesF, if_neg hs, if_neg hb, e]
def ChainU : List UInt8 -> Nat -> List (Nat × Nat) -> List UInt8 -> Nat -> Prop
 | s, p, [], s', p' => s = s' /\ p = p'
 | s, p, x :: pre, s', p' => s ≠ [] /\ badR s p = false /\ x = (p, (firstF s).1) /\ ChainU (s.drop (firstF s).2) (p + (firstF s).2) pre s' p'
theorem ChainU.snoc {s : List UInt8} {p : Nat} {pre : List (Nat × Nat)} {s' : List UInt8} {p' : Nat} (h : ChainU s p pre s' p') (hs : s' ≠ []) (hb : badR s' p' = false) :
  ChainU s p (pre ++ [(p', (firstF s').1)]) (s'.drop (firstF s').2) (p' + (firstF s').2) := by
 induction pre generalizing s p with
 | nil => obtain ⟨rfl, rfl⟩ := h; exact ⟨hs, hb, rfl, rfl, rfl⟩
 | cons x pre ih => exact ⟨h.1, h.2.1, h.2.2.1, ih h.2.2.2⟩
theorem ChainU.runes {s : List UInt8} {p : Nat} {pre : List (Nat × Nat)} {s' : List UInt8} {p' : Nat} (h : ChainU s p pre s' p') : runesL s p = (pre.map (·.2) ++ (runesL s' p').1, (runesL s' p').2) := by
 induction pre generalizing s p with
 | nil => obtain ⟨rfl, rfl⟩ := h; simp
 | cons x pre ih =>
  rw [runesL_good s p h.1 h.2.1, ih h.2.2.2, h.2.2.1]
  simp
theorem ChainU.drop {s : List UInt8} {p : Nat} {pre : List (Nat × Nat)} {s' : List UInt8} {p' : Nat} (h : ChainU s p pre s' p') : p <= p' /\ p' - p <= s.length /\ s' = s.drop (p' - p) := by
 induction pre generalizing s p with
 | nil => obtain ⟨rfl, rfl⟩ := h; simp
 | cons x pre ih =>
  obtain ⟨h1, h2, h3⟩ := ih h.2.2.2
  have h4 := firstF_le s
  simp only [List.length_drop, List.drop_drop] at h2 h3
  refine ⟨by omega, by omega, ?_⟩
  rw [h3]
  congr 1
  omega
end
section
theorem utf_may (r : Int) (w : World) :
  Calls Tryz.prog 352 #[.int .i32 r] w fun e w' => e = .returned (.bool (mayR r)) /\ w = w' := by
 unfold mayR
 by_cases h1 : 0 <= r
 ·by_cases h2 : r <= 1114111
  ·by_cases h3 : r < 55296
   ·go_enter Tryz.func352, Tryz.ntmps352
    go_wp2
    go_ret
    (simp [h1, h2, h3]; try (intros; omega))
   ·go_enter Tryz.func352, Tryz.ntmps352
    go_wp2
    go_ret
    (simp [h1, h2, h3]; try (intros; omega))
  ·go_enter Tryz.func352, Tryz.ntmps352
   go_wp2
   go_ret
   (simp [h1, h2]; try (intros; omega))
 ·go_enter Tryz.func352, Tryz.ntmps352
  go_wp2
  go_ret
  (simp [h1]; try (intros; omega))
theorem utf_classes (w : World) :
  Calls Tryz.prog 351 #[] w fun e w' => e = .returned (.agg #[.int .i32 0, .int .u8 0, .int .i32 128, .int .u8 0, .int .i32 2048, .int .u8 192, .int .i32 65536, .int .u8 224, .int .i32 1114112, .int .u8 240]) /\ w.alloc (.cells #[.int .i32 0, .int .u8 0, .int .i32 128, .int .u8 0, .int .i32 2048, .int .u8 192, .int .i32 65536, .int .u8 224, .int .i32 1114112, .int .u8 240] 395) = w' := by
 go_enter Tryz.func351, Tryz.ntmps351
 go_wp2
 exact bodyPost_ret (v := .agg #[.int .i32 0, .int .u8 0, .int .i32 128, .int .u8 0, .int .i32 2048, .int .u8 192, .int .i32 65536, .int .u8 224, .int .i32 1114112, .int .u8 240]) (by simp [results, Tryz.results351, go_sem]) rfl ⟨rfl, rfl⟩
def belows : List Int := [0, 128, 2048, 65536, 1114112]
theorem indexFunc_class (g : Nat) (lb : Array Value) (p : Int -> Bool) (B : Nat) (w : World) (hB : w.heap[B]? = some (.cells #[.int .i32 0, .int .u8 0, .int .i32 128, .int .u8 0, .int .i32 2048, .int .u8 192, .int .i32 65536, .int .u8 224, .int .i32 1114112, .int .u8 240] 395 (0, 0)))
 (eg : ∀ args w, (callFunc g args).run Tryz.prog w = .ok (.enter g args) w) (hg : ∀ (b l : Int) (W : World), Below w.heap.size w W -> Calls Tryz.prog g (#[.agg #[.int .i32 b, .int .u8 l]] ++ lb) W fun e w' => e = .returned (.bool (p b)) /\ Below W.heap.size W w') :
  Calls Tryz.prog 364 #[.slice (some ⟨B, 0, none⟩) 5 5, .func (.func g) #[] lb] w fun e w' => e = .returned (.int .i64 (idxOf p belows)) /\ Below w.heap.size w w' := by
 have HG := hid hg; clear hg
 have HB := hid hB; clear hB
 go_enter Tryz.func364, Tryz.ntmps364
 go_wp2
 go_loopw [4,5,8] (fun _ _ i wr => ∃ k : Nat, k <= 5 /\ i = .int .i64 k /\ Hid (∀ j, j < k -> p (belows[j]?.getD 0) = false) /\ Below w.heap.size w wr) (fun _ _ i _ => 5 - (intOf i).toNat)
 case atStart => exact ⟨0, Nat.zero_le _, rfl, fun j hj => absurd hj (Nat.not_lt_zero _), Below.refl _ _⟩
 case round =>
  obtain ⟨k, hk, rfl, hj, hbel⟩ := hrel
  have hBr : wr.heap[B]? = some (.cells #[.int .i32 0, .int .u8 0, .int .i32 128, .int .u8 0, .int .i32 2048, .int .u8 192, .int .i32 65536, .int .u8 224, .int .i32 1114112, .int .u8 240] 395 (0, 0)) := (hbel.block B (Array.getElem?_eq_some_iff.1 HB.out).1).trans HB.out
  have step : ∀ j, wr.cell? ⟨B, j, none⟩ = (#[.int .i32 0, .int .u8 0, .int .i32 128, .int .u8 0, .int .i32 2048, .int .u8 192, .int .i32 65536, .int .u8 224, .int .i32 1114112, .int .u8 240] : Array Value)[j]? := fun j => by simp [World.cell?, hBr]
  have c0 := step 0; have c1 := step 1; have c2 := step 2; have c3 := step 3; have c4 := step 4; have c5 := step 5; have c6 := step 6; have c7 := step 7; have c8 := step 8; have c9 := step 9
  clear step hBr;simp only [List.getElem?_toArray, List.getElem?_cons_zero, List.getElem?_cons_succ] at c0 c1 c2 c3 c4 c5 c6 c7 c8 c9
  rcases (show k = 0 \/ k = 1 \/ k = 2 \/ k = 3 \/ k = 4 \/ k = 5 by omega) with rfl | rfl | rfl | rfl | rfl | rfl
  ·go_wp2_with fail
   refine (HG.out _ _ _ hbel).mono ?_
   rintro e w1 ⟨rfl, hb1⟩
   have hb2 := hbel.trans (hb1.mono hbel.size)
   cases hp : p 0
   ·go_wp2
    go_roundw
    case rel =>
     refine ⟨1, by omega, by go_num, fun j hj' => ?_, hb2⟩
     by_cases he : j = 0
     ·subst he; exact hp
     ·exact hj.out j (by omega)
    case measure => simp [intOf]
   ·go_wp2
    go_ret
    refine ⟨?_, hb2⟩
    have hi := idxOf_at p belows 0 (by decide) (fun j hj' => by have h1 := hj.out j hj'; rwa [List.getElem?_eq_getElem (by have : belows.length = 5 := rfl; omega)] at h1) hp
    rw [hi]
    rfl
  ·go_wp2_with fail
   refine (HG.out _ _ _ hbel).mono ?_
   rintro e w1 ⟨rfl, hb1⟩
   have hb2 := hbel.trans (hb1.mono hbel.size)
   cases hp : p 128
   ·go_wp2
    go_roundw
    case rel =>
     refine ⟨2, by omega, by go_num, fun j hj' => ?_, hb2⟩
     by_cases he : j = 1
     ·subst he; exact hp
     ·exact hj.out j (by omega)
    case measure => simp [intOf]
   ·go_wp2
    go_ret
    refine ⟨?_, hb2⟩
    have hi := idxOf_at p belows 1 (by decide) (fun j hj' => by have h1 := hj.out j hj'; rwa [List.getElem?_eq_getElem (by have : belows.length = 5 := rfl; omega)] at h1) hp
    rw [hi]
    rfl
  ·go_wp2_with fail
   refine (HG.out _ _ _ hbel).mono ?_
   rintro e w1 ⟨rfl, hb1⟩
   have hb2 := hbel.trans (hb1.mono hbel.size)
   cases hp : p 2048
   ·go_wp2
    go_roundw
    case rel =>
     refine ⟨3, by omega, by go_num, fun j hj' => ?_, hb2⟩
     by_cases he : j = 2
     ·subst he; exact hp
     ·exact hj.out j (by omega)
    case measure => simp [intOf]
   ·go_wp2
    go_ret
    refine ⟨?_, hb2⟩
    have hi := idxOf_at p belows 2 (by decide) (fun j hj' => by have h1 := hj.out j hj'; rwa [List.getElem?_eq_getElem (by have : belows.length = 5 := rfl; omega)] at h1) hp
    rw [hi]
    rfl
  ·go_wp2_with fail
   refine (HG.out _ _ _ hbel).mono ?_
   rintro e w1 ⟨rfl, hb1⟩
   have hb2 := hbel.trans (hb1.mono hbel.size)
   cases hp : p 65536
   ·go_wp2
    go_roundw
    case rel =>
     refine ⟨4, by omega, by go_num, fun j hj' => ?_, hb2⟩
     by_cases he : j = 3
     ·subst he; exact hp
     ·exact hj.out j (by omega)
    case measure => simp [intOf]
   ·go_wp2
    go_ret
    refine ⟨?_, hb2⟩
    have hi := idxOf_at p belows 3 (by decide) (fun j hj' => by have h1 := hj.out j hj'; rwa [List.getElem?_eq_getElem (by have : belows.length = 5 := rfl; omega)] at h1) hp
    rw [hi]
    rfl
  ·go_wp2_with fail
   refine (HG.out _ _ _ hbel).mono ?_
   rintro e w1 ⟨rfl, hb1⟩
   have hb2 := hbel.trans (hb1.mono hbel.size)
   cases hp : p 1114112
   ·go_wp2
    go_roundw
    case rel =>
     refine ⟨5, by omega, by go_num, fun j hj' => ?_, hb2⟩
     by_cases he : j = 4
     ·subst he; exact hp
     ·exact hj.out j (by omega)
    case measure => simp [intOf]
   ·go_wp2
    go_ret
    refine ⟨?_, hb2⟩
    have hi := idxOf_at p belows 4 (by decide) (fun j hj' => by have h1 := hj.out j hj'; rwa [List.getElem?_eq_getElem (by have : belows.length = 5 := rfl; omega)] at h1) hp
    rw [hi]
    rfl
  ·go_wp2
   go_ret
   refine ⟨?_, hbel⟩
   rw [idxOf_none p belows (fun x hx => by
    obtain ⟨j, hj', rfl⟩ := List.getElem_of_mem hx
    have h1 := hj.out j (by have : belows.length = 5 := rfl; omega)
    rwa [List.getElem?_eq_getElem hj'] at h1)]
   rfl
theorem utf_long1 (b l : Int) (m : Int) (B : Nat) (w : World) (hc : w.cell? ⟨B, 0, none⟩ = some (.int .i32 m)) :
  Calls Tryz.prog 365 #[.agg #[.int .i32 b, .int .u8 l], .pointer (some ⟨B, 0, none⟩)] w fun e w' => e = .returned (.bool (decide (m < b))) /\ Below w.heap.size w w' := by
 have hc2 := cell_alloc hc (.cells #[.int .i32 b, .int .u8 l] 394)
 go_enter Tryz.func365, Tryz.ntmps365
 go_wp2
 go_ret
 exact ⟨rfl, (Below.refl _ _).alloc (Nat.le_refl _) _⟩
theorem utf_long (m : Nat) (w : World) (hm : m <= 1114111) :
  Calls Tryz.prog 362 #[.int .i32 m] w fun e w' => e = .returned (.int .i64 (lenR m)) /\ Below w.heap.size w w' := by
 have hi : idxOf (fun b => decide ((m : Int) < b)) belows = lenR m := by
  unfold lenR
  split
  ·
   refine idxOf_at _ belows 1 (by decide) (fun j hj => ?_) (decide_eq_true (by show (m : Int) < 128; omega))
   rcases (show j = 0 by omega) with rfl
   ·exact decide_eq_false (by show ¬ (m : Int) < 0; omega)
  ·split
   ·
    refine idxOf_at _ belows 2 (by decide) (fun j hj => ?_) (decide_eq_true (by show (m : Int) < 2048; omega))
    rcases (show j = 0 \/ j = 1 by omega) with rfl | rfl
    ·exact decide_eq_false (by show ¬ (m : Int) < 0; omega)
    ·exact decide_eq_false (by show ¬ (m : Int) < 128; omega)
   ·split
    ·
     refine idxOf_at _ belows 3 (by decide) (fun j hj => ?_) (decide_eq_true (by show (m : Int) < 65536; omega))
     rcases (show j = 0 \/ j = 1 \/ j = 2 by omega) with rfl | rfl | rfl
     ·exact decide_eq_false (by show ¬ (m : Int) < 0; omega)
     ·exact decide_eq_false (by show ¬ (m : Int) < 128; omega)
     ·exact decide_eq_false (by show ¬ (m : Int) < 2048; omega)
    ·
     refine idxOf_at _ belows 4 (by decide) (fun j hj => ?_) (decide_eq_true (by show (m : Int) < 1114112; omega))
     rcases (show j = 0 \/ j = 1 \/ j = 2 \/ j = 3 by omega) with rfl | rfl | rfl | rfl
     ·exact decide_eq_false (by show ¬ (m : Int) < 0; omega)
     ·exact decide_eq_false (by show ¬ (m : Int) < 128; omega)
     ·exact decide_eq_false (by show ¬ (m : Int) < 2048; omega)
     ·exact decide_eq_false (by show ¬ (m : Int) < 65536; omega)
 have HI := hid hi; clear hi
 go_enter Tryz.func362, Tryz.ntmps362
 go_wp2_with fail
 refine (utf_classes _).mono ?_
 rintro e w1 ⟨rfl, rfl⟩
 go_wp2_with fail
 have hb0 := Boxed.new w 21 (.int .i32 m)
 have hb1 := (hb0.alloc (.cells #[.int .i32 0, .int .u8 0, .int .i32 128, .int .u8 0, .int .i32 2048, .int .u8 192, .int .i32 65536, .int .u8 224, .int .i32 1114112, .int .u8 240] 395)).alloc (.cells #[.int .i32 0, .int .u8 0, .int .i32 128, .int .u8 0, .int .i32 2048, .int .u8 192, .int .i32 65536, .int .u8 224, .int .i32 1114112, .int .u8 240] 395)
 have hB := World.alloc_heap_new ((w.alloc (.cells #[.int .i32 m] 21)).alloc (.cells #[.int .i32 0, .int .u8 0, .int .i32 128, .int .u8 0, .int .i32 2048, .int .u8 192, .int .i32 65536, .int .u8 224, .int .i32 1114112, .int .u8 240] 395)) (.cells #[.int .i32 0, .int .u8 0, .int .i32 128, .int .u8 0, .int .i32 2048, .int .u8 192, .int .i32 65536, .int .u8 224, .int .i32 1114112, .int .u8 240] 395)
 simp only [World.size_alloc] at hB
 refine (indexFunc_class 365 #[.pointer (some ⟨w.heap.size, 0, none⟩)] (fun b => decide ((m : Int) < b)) _ _ hB (enters_of Tryz.func365 (by kernel_rfl) rfl) (fun b l W hW => utf_long1 b l m _ W (boxed_below hb1 hW).cell)).mono ?_
 rintro e w' ⟨rfl, hb⟩
 rw [HI.out]
 go_wp2
 go_ret
 exact ⟨rfl, (((((Below.refl _ w).alloc (Nat.le_refl _) _).alloc (by simp) _).alloc (by simp; omega) _).trans (hb.mono (by simp; omega)))⟩
end
end Go.Proofs.YtkghejaimhoboaaGreatDoor
