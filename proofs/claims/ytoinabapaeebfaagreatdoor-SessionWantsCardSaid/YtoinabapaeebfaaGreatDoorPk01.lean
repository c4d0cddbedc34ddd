/- Words on slices in memory that all texts of these claims use, whatever the program: a slice value whose elements are known cells; what is owned; what stays. No program in sight. -/
import Derived.WalkKit
import Derived.WalkSpells
import Derived.WalkLawsBesides
import Derived.Deep.LoopGhost
import Derived.RangeFuncNested
import Derived.RangeFuncBound
import Derived.RangeFuncCalls
import Derived.RangeFuncLeaves
import Derived.OwnWalkIn
import Derived.Shelf.Abstract
import Derived.Shelf.RegionOpen
import Derived.TacticsInMore
import Derived.LoopNIn
import Derived.LoopIn
import Derived.ScopeJumps
import Derived.WalkMore
import Derived.BigQuiet
import Derived.Deep.QuietTactic
import Derived.Deep.RegionWith
set_option linter.unusedSimpArgs false
set_option linter.unusedVariables false
namespace Go.Proofs.YtoinabapaeebfaaGreatDoor
open Go.RowKit Go.Shelf

theorem hid {p : Prop} (h : p) : Hid p := h

/-- Bytes as cells. -/
def bs (l : List UInt8) : List Value := l.map fun x => .int .u8 x.toNat
/-- Numbers as cells. -/
def ns (k : IntKind) (l : List Int) : List Value := l.map (.int k)

/-- The slice value (a, n, cap) shows the cells cs, one cell an element. -/
structure RowAt (w : World) (a : Option Addr) (n cap : Nat) (cs : List Value) : Prop where
  len : cs.length = n
  le : n ≤ cap
  max : cap ≤ maxLen
  hnil : a = none → cap = 0
  cells : ∀ i, i < n → ∃ b off, a = some ⟨b, off, none⟩ ∧ w.cell? ⟨b, off + i, none⟩ = cs[i]?

theorem bs_len (l : List UInt8) : (bs l).length = l.length := by simp [bs]
theorem ns_len (k : IntKind) (l : List Int) : (ns k l).length = l.length := by simp [ns]
theorem bs_get (l : List UInt8) (i : Nat) (h : i < l.length) : (bs l)[i]? = some (.int .u8 ((l[i]?.getD 0).toNat : Int)) := by
  simp [bs, List.getElem?_eq_getElem h]
theorem ns_get (k : IntKind) (l : List Int) (i : Nat) (h : i < l.length) : (ns k l)[i]? = some (.int k (l[i]?.getD 0)) := by
  simp [ns, List.getElem?_eq_getElem h]

theorem RowAt.byte {w : World} {a : Option Addr} {n cap : Nat} {l : List UInt8} (h : RowAt w a n cap (bs l)) {i : Nat} (hi : i < n) :
    ∃ b off, a = some ⟨b, off, none⟩ ∧ w.cell? ⟨b, off + i, none⟩ = some (.int .u8 ((l[i]?.getD 0).toNat : Int)) := by
  obtain ⟨b, off, ha, hc⟩ := h.cells i hi
  exact ⟨b, off, ha, hc.trans (bs_get l i (by have := h.len; rw [bs_len] at this; omega))⟩
theorem RowAt.num {w : World} {a : Option Addr} {n cap : Nat} {k : IntKind} {l : List Int} (h : RowAt w a n cap (ns k l)) {i : Nat} (hi : i < n) :
    ∃ b off, a = some ⟨b, off, none⟩ ∧ w.cell? ⟨b, off + i, none⟩ = some (.int k (l[i]?.getD 0)) := by
  obtain ⟨b, off, ha, hc⟩ := h.cells i hi
  exact ⟨b, off, ha, hc.trans (ns_get k l i (by have := h.len; rw [ns_len] at this; omega))⟩

theorem RowAt.empty (w : World) : RowAt w none 0 0 [] := ⟨rfl, Nat.le_refl _, Nat.zero_le _, fun _ => rfl, fun i hi => absurd hi (Nat.not_lt_zero _)⟩

theorem cell_lt {w : World} {p : Addr} {v : Value} (h : w.cell? p = some v) : p.block < w.heap.size := by
  unfold World.cell? at h
  by_cases hlt : p.block < w.heap.size
  · exact hlt
  · rw [Array.getElem?_eq_none (by omega)] at h; simp at h

/-- What old memory shows it shows later. -/
theorem RowAt.below {w w' : World} {a : Option Addr} {n cap : Nat} {cs : List Value} (h : RowAt w a n cap cs) (hb : Below w.heap.size w w') : RowAt w' a n cap cs :=
  ⟨h.len, h.le, h.max, h.hnil, fun i hi => by
    obtain ⟨b, off, ha, hc⟩ := h.cells i hi
    have hs : w.cell? ⟨b, off + i, none⟩ = some (cs[i]'(by have := h.len; omega)) := by rw [hc]; exact List.getElem?_eq_getElem _
    exact ⟨b, off, ha, (hb.cell (p := ⟨b, off + i, none⟩) (cell_lt hs)).trans hc⟩⟩

/-- An owned row of one-cell elements is shown. -/
theorem RowAt.of_own {w : World} {base : Nat} {e : TypeId} {v : Value} {n : Nat} {xs : List Value} (h : w.ownsRow base e 1 v n xs) :
    ∃ a cap, v = .slice a n cap ∧ RowAt w a n cap xs := by
  obtain ⟨hl, ⟨rfl, rfl⟩ | ⟨g, cap, cur, rfl, hb, hg, hn, hm, hc, ht⟩⟩ := h
  · refine ⟨none, 0, rfl, ?_⟩
    have : xs = [] := List.eq_nil_of_length_eq_zero (by simpa using hl)
    subst this; exact RowAt.empty w
  · refine ⟨_, _, rfl, by simpa using hl, hn, hm, (fun e => by cases e), fun i hi => ⟨g, 0, rfl, ?_⟩⟩
    have h1 : cur.size = cap := by simpa using hc
    have hlt : i < cur.size := by omega
    have hx : xs[i]? = some cur[i] := by
      rw [← ht, List.getElem?_take_of_lt (by simpa using hi)]; simp [hlt]
    rw [hx]
    simp [World.cell?, hg, hlt]

/-- The cells of a new block. -/
theorem RowAt.new (w : World) (cs : Array Value) (T : TypeId) (fz : Nat × Nat) (h : cs.size ≤ maxLen) : RowAt (w.alloc (.cells cs T fz)) (some ⟨w.heap.size, 0, none⟩) cs.size cs.size cs.toList :=
  ⟨by simp, Nat.le_refl _, h, (fun e => by cases e), fun i hi => ⟨w.heap.size, 0, rfl, by
    have h1 := World.alloc_heap_new w (.cells cs T fz)
    unfold World.cell?
    dsimp only
    rw [h1]
    simp [hi]⟩⟩

theorem RowAt.take {w : World} {a : Option Addr} {n cap : Nat} {cs : List Value} (h : RowAt w a n cap cs) (k : Nat) (hk : k ≤ n) : RowAt w a k cap (cs.take k) :=
  ⟨by have := h.len; simp; omega, by have := h.le; omega, h.max, h.hnil, fun i hi => by
    obtain ⟨b, off, ha, hc⟩ := h.cells i (by omega)
    exact ⟨b, off, ha, by rw [hc, List.getElem?_take_of_lt hi]⟩⟩
/-- x[i:j]. -/
theorem RowAt.sub {w : World} {b off : Nat} {n cap : Nat} {cs : List Value} (h : RowAt w (some ⟨b, off, none⟩) n cap cs) {i j : Nat} (hij : i ≤ j) (hj : j ≤ n) {a' : Option Addr} {n' cap' : Nat}
    (ha : i < cap → a' = some ⟨b, off + i, none⟩) (hn : n' = j - i) (hc : cap' = cap - i) : RowAt w a' n' cap' ((cs.take j).drop i) := by
  subst hn hc
  refine ⟨by have := h.len; simp; omega, by have := h.le; omega, by have := h.max; omega, fun e => by
    rcases Nat.lt_or_ge i cap with hlt | hge
    · rw [ha hlt] at e; cases e
    · omega, fun k hk => ?_⟩
  obtain ⟨b', off', hb, hcell⟩ := h.cells (i + k) (by omega)
  cases hb
  refine ⟨b, off + i, ha (by have := h.le; omega), ?_⟩
  rw [Nat.add_assoc, hcell, List.getElem?_drop, List.getElem?_take_of_lt (by omega)]
theorem bs_sub (l : List UInt8) (i j : Nat) : ((bs l).take j).drop i = bs ((l.take j).drop i) := by simp [bs]
theorem bs_take (l : List UInt8) (k : Nat) : (bs l).take k = bs (l.take k) := by simp [bs]
theorem bs_drop (l : List UInt8) (k : Nat) : (bs l).drop k = bs (l.drop k) := by simp [bs]

theorem cell_alloc {w : World} {p : Addr} {v : Value} (h : w.cell? p = some v) (o : Obj) : (w.alloc o).cell? p = some v :=
  (((Below.refl w.heap.size w).alloc (Nat.le_refl _) o).cell (p := p) (cell_lt h)).trans h
theorem RowAt.alloc {w : World} {a : Option Addr} {n cap : Nat} {cs : List Value} (h : RowAt w a n cap cs) (o : Obj) : RowAt (w.alloc o) a n cap cs :=
  h.below ((Below.refl _ _).alloc (Nat.le_refl _) o)

theorem ownsRow_mono {w : World} {base base' : Nat} {e : TypeId} {size : Nat} {v : Value} {n : Nat} {xs : List Value} (h : w.ownsRow base e size v n xs) (hb : base' ≤ base) :
    w.ownsRow base' e size v n xs := by
  obtain ⟨hl, h | ⟨g, cap, cur, rfl, hg, h⟩⟩ := h
  · exact ⟨hl, .inl h⟩
  · exact ⟨hl, .inr ⟨g, cap, cur, rfl, by omega, h⟩⟩

theorem ownsRow_below {w w' : World} {base : Nat} {e : TypeId} {size : Nat} {v : Value} {n : Nat} {xs : List Value} (h : w.ownsRow base e size v n xs) (hb : Below w.heap.size w w') :
    w'.ownsRow base e size v n xs := by
  obtain ⟨hl, h | ⟨g, cap, cur, rfl, hg, hh, h⟩⟩ := h
  · exact ⟨hl, .inl h⟩
  · exact ⟨hl, .inr ⟨g, cap, cur, rfl, hg, (hb.block g (Array.getElem?_eq_some_iff.1 hh).1).trans hh, h⟩⟩
theorem boxed_below {w w' : World} {B : Nat} {t : TypeId} {v : Value} (h : Boxed w B t v) (hb : Below w.heap.size w w') : Boxed w' B t v :=
  (hb.block B h.lt).trans h

/-- A block of another element type is no owned row. -/
theorem block_not_row {W : World} {B : Nat} {c : Array Value} {t e : TypeId} {f : Nat × Nat} (h : W.heap[B]? = some (.cells c t f)) (hte : t ≠ e) {base size k : Nat} {v : Value} {xs : List Value} (hr : W.ownsRow base e size v k xs) : some B ≠ v.ownBlock := by
  obtain ⟨_, ⟨rfl, _⟩ | ⟨g, cap, cur, rfl, _, hg, _⟩⟩ := hr
  · simp [Value.ownBlock]
  · intro he
    simp only [Value.ownBlock, Option.some.injEq] at he
    subst he
    rw [h] at hg
    cases hg
    exact hte rfl
/-- An owned row stays when another row of another element type is written. -/
theorem ownsRow_grown {w w' : World} {base e e' size size' n n' : Nat} {v v' : Value} {xs xs' : List Value} (h : w.ownsRow base e size v n xs) (hte : e ≠ e') (hr : w.ownsRow base e' size' v' n' xs') (hg : w.grownBy w' v'.ownBlock) :
    w'.ownsRow base e size v n xs := by
  obtain ⟨hl, hx | ⟨g, cap, cur, rfl, hb, hh, hx⟩⟩ := h
  · exact ⟨hl, .inl hx⟩
  · exact ⟨hl, .inr ⟨g, cap, cur, rfl, hb, (hg.block g (Array.getElem?_eq_some_iff.1 hh).1 (block_not_row hh hte hr)).trans hh, hx⟩⟩

/-! ### x[i:j], whatever the address -/
def cutA (a : Option Addr) (cap i : Nat) : Option Addr := if cap = i then a else a.map (·.add i)
theorem RowAt.cut {w : World} {a : Option Addr} {n cap : Nat} {cs : List Value} (h : RowAt w a n cap cs) {i j : Nat} (hij : i ≤ j) (hj : j ≤ n) : RowAt w (cutA a cap i) (j - i) (cap - i) ((cs.take j).drop i) := by
  refine ⟨by have := h.len; simp; omega, by have := h.le; omega, by have := h.max; omega, fun e => by
    have : a = none := by
      unfold cutA at e
      split at e
      · exact e
      · simpa using e
    rw [h.hnil this]; exact Nat.zero_sub _, fun k hk => ?_⟩
  obtain ⟨b, off, hb, hcell⟩ := h.cells (i + k) (by omega)
  subst hb
  have hne : cap ≠ i := by have := h.le; omega
  refine ⟨b, off + i, ?_, ?_⟩
  · unfold cutA
    rw [if_neg hne]
    by_cases h0 : i = 0
    · subst h0; simp [Addr.add]
    · simp [Addr.add, h0]
  · rw [Nat.add_assoc, hcell, List.getElem?_drop, List.getElem?_take_of_lt (by omega)]
theorem RowAt.from {w : World} {a : Option Addr} {n cap : Nat} {cs : List Value} (h : RowAt w a n cap cs) {i : Nat} (hi : i ≤ n) : RowAt w (cutA a cap i) (n - i) (cap - i) (cs.drop i) := by
  have h1 := h.cut hi (Nat.le_refl n)
  rwa [List.take_of_length_le (by have := h.len; omega)] at h1
theorem run_cut_lh {P : Program} {t : TypeId} (ht : P.underlying t = some (.slice (P.elem t))) (hs : ∀ W, (sizeOf (P.elem t)).run P W = .ok 1 W) (a : Option Addr) (n cap : Nat) (i j : Int) (i' j' : Nat) (hi : i = i') (hj : j = j') (hij : i' ≤ j') (hjc : j' ≤ cap) (W : World) :
    (Instr.slice t (.slice a n cap) (some (.int .i64 i)) (some (.int .i64 j)) none).run P W = .ok (.slice (cutA a cap i') (j' - i') (cap - i')) W := by
  subst hi hj
  rw [run_slice_lh W t a n cap ht .i64 .i64 _ _ (by omega) (by omega) (by omega), hs]
  simp [Result.andThen, sliced, cutA]
theorem run_cut_l {P : Program} {t : TypeId} (ht : P.underlying t = some (.slice (P.elem t))) (hs : ∀ W, (sizeOf (P.elem t)).run P W = .ok 1 W) (a : Option Addr) (n cap : Nat) (i : Int) (i' : Nat) (hi : i = i') (hin : i' ≤ n) (W : World) :
    (Instr.slice t (.slice a n cap) (some (.int .i64 i)) none none).run P W = .ok (.slice (cutA a cap i') (n - i') (cap - i')) W := by
  subst hi
  rw [run_slice_l W t a n cap ht .i64 _ (by omega) (by omega), hs]
  simp [Result.andThen, sliced, cutA]

/-! ### Append -/

/-- t is the slice type of the elements e, whose zero value is z, of so many cells and bytes. -/
structure ElemT (P : Program) (t e : TypeId) (z : Value) (size bytes : Nat) : Prop where
  ht : P.underlying t = some (.slice e)
  info : (P.info? e).map (fun i => (i.zero, i.size, i.bytes)) = some (some z, size, bytes)
  hzs : z.cells.size = size

theorem grownBy_trans {a b c : World} {row : Option Nat} (h : a.grownBy b none) (k : b.grownBy c row) : a.grownBy c row :=
  ⟨k.os.trans h.os, k.tape.trans h.tape, k.output.trans h.output, Nat.le_trans h.size k.size, fun i hi hr => (k.block i (Nat.lt_of_lt_of_le hi h.size) hr).trans (h.block i hi (by simp))⟩

/-- 'out = append(out, u)', out the call's own, u one cell: the operation alone. -/
theorem wp_append_one {P : Program} {w : World} {o : Oper} {a : Act} {K : Act → World → Prop} {Q : Exit → Act → World → Prop} {t e : TypeId} {z : Value} {bytes : Nat} (s x : Operand)
    (ho : o.op = .call { callee := .builtin .append, args := #[s, x], argTypes := #[t, t] }) (E : ElemT P t e z 1 bytes)
    (base : Nat) (v : Value) (n : Nat) (xs : List Value) (hs : a.eval s = v) (hown : w.ownsRow base e 1 v n xs) (u : Value) (hu : u.oneCell' = true) {T : TypeId}
    (hx : a.eval x = .slice (some ⟨w.heap.size, 0, none⟩) 1 1) (h63 : n < 140737488355328) (hbytes : (n + 1) * bytes ≤ 140737488355328) (hbase : base ≤ w.heap.size)
    (h : ∀ v' w', w'.ownsRow base e 1 v' (n + 1) (xs ++ [u]) → w.grownBy w' v.ownBlock → K (a.put o.dst v') w') : o.wp P a (w.alloc (.cells #[u] T)) K Q := by
  obtain ⟨i, hi, hz0, hz1, hz2⟩ := info_parts E.info
  refine wp_append_own _ s x t ho base e i z 1 bytes E.ht hi hz0 hz1 hz2 E.hzs (by decide) v n xs hs (hown.alloc _) ⟨w.heap.size, 0, none⟩ 1 1 [u] hx rfl ?_ ?_ ?_ hbytes ?_ ?_
  · intro j u' hj
    match j, hj with
    | 0, hj => simp at hj; subst hj; exact cell_one_new _ _ _ 0 _ (by simp)
  · intro u' h'; simp at h'; subst h'; exact hu
  · unfold maxLen; omega
  · simp; omega
  · intro v' w' h1 h2 _
    exact h v' w' h1 (grownBy_trans (World.grownBy_alloc w _ none) h2)

/-- 'out = append(out, u)', out the call's own, u one cell. -/
theorem append_one {P : Program} {w : World} {ops : Array Oper} {rest : List Oper} {o : Oper} {a : Act} {Q : Exit → Act → World → Prop} {t e : TypeId} {z : Value} {bytes : Nat} (hgd : o.guard = none) (s x : Operand)
    (ho : o.op = .call { callee := .builtin .append, args := #[s, x], argTypes := #[t, t] }) (E : ElemT P t e z 1 bytes)
    (base : Nat) (v : Value) (n : Nat) (xs : List Value) (hs : a.eval s = v) (hown : w.ownsRow base e 1 v n xs) (u : Value) (hu : u.oneCell' = true) {T : TypeId}
    (hx : a.eval x = .slice (some ⟨w.heap.size, 0, none⟩) 1 1) (h63 : n < 140737488355328) (hbytes : (n + 1) * bytes ≤ 140737488355328) (hbase : base ≤ w.heap.size)
    (h : ∀ v' w', w'.ownsRow base e 1 v' (n + 1) (xs ++ [u]) → w.grownBy w' v.ownBlock → wpList P ops Q rest (a.put o.dst v') w') : wpList P ops Q (o :: rest) a (w.alloc (.cells #[u] T)) :=
  wpList_plain hgd fun _ hK => wp_append_one s x ho E base v n xs hs hown u hu hx h63 hbytes hbase fun v' w' h1 h2 => hK _ _ (h v' w' h1 h2)

/-- The first place at which p holds; -1: there is none. -/
def idxOf {α : Type} (p : α → Bool) : List α → Int
  | [] => -1
  | x :: l => if p x then 0 else (let r := idxOf p l; if r < 0 then -1 else r + 1)
theorem idxOf_none {α : Type} (p : α → Bool) (l : List α) (h : ∀ x ∈ l, p x = false) : idxOf p l = -1 := by
  induction l with
  | nil => rfl
  | cons x l ih => simp [idxOf, h x (by simp), ih (fun y hy => h y (by simp [hy]))]
theorem idxOf_at {α : Type} (p : α → Bool) (l : List α) (k : Nat) (hk : k < l.length) (h : ∀ j (hj : j < k), p (l[j]'(by omega)) = false) (hp : p l[k] = true) : idxOf p l = k := by
  induction l generalizing k with
  | nil => simp at hk
  | cons x l ih =>
    cases k with
    | zero => simp at hp; simp [idxOf, hp]
    | succ k =>
      have h0 := h 0 (by omega)
      simp at h0
      have := ih k (by simpa using hk) (fun j hj => by simpa using h (j + 1) (by omega)) (by simpa using hp)
      simp [idxOf, h0, this]; omega

theorem idxOf_lt {α : Type} (p : α → Bool) (l : List α) : idxOf p l < l.length ∧ -1 ≤ idxOf p l := by
  induction l with
  | nil => simp [idxOf]
  | cons x l ih =>
    simp only [idxOf, List.length_cons]
    split
    · omega
    · split <;> omega

/-! ### A scope whose gotos all lead forward to one label -/

def exitFwd (P : Program) (l : Nat) (rest : Code) (Q : Exit → Act → World → Prop) : Exit → Act → World → Prop
  | .goto l', a, w => l' = l ∧ rest.wp P (Exit.noGoto Q) a w
  | .normal, a, w => Q .normal a w
  | .exit i, a, w => Q (.exit i) a w
  | .ret, a, w => Q .ret a w
  | .panic c, a, w => Q (.panic c) a w
  | .outgrown, a, w => Q .outgrown a w
section
variable {P : Program} {l : Nat} {rest : Code} {Q : Exit → Act → World → Prop} {a : Act} {w : World}
@[go_sem] theorem exitFwd_normal : exitFwd P l rest Q .normal a w = Q .normal a w := rfl
@[go_sem] theorem exitFwd_exit (i : Nat) : exitFwd P l rest Q (.exit i) a w = Q (.exit i) a w := rfl
@[go_sem] theorem exitFwd_ret : exitFwd P l rest Q .ret a w = Q .ret a w := rfl
@[go_sem] theorem exitFwd_panic (c : List PanicEntry) : exitFwd P l rest Q (.panic c) a w = Q (.panic c) a w := rfl
theorem wp_scope_fwd {c : Code} (l : Nat) (hf : findLabel c l = some rest) (h : c.wp P (exitFwd P l rest Q) a w) : (Code.scope c).wp P Q a w := by
  refine wp_scope_jumps l (fun a w => rest.wp P (Exit.noGoto Q) a w) (fun _ _ => 0) hf ?_ ?_
  · refine wp_mono h ?_
    intro e a' w' hq
    cases e <;> exact hq
  · intro a w hJ
    refine wp_mono hJ ?_
    intro e a' w' hq
    cases e with
    | goto l' => exact absurd hq (by simp [Exit.noGoto])
    | normal => exact hq
    | exit i => exact hq
    | ret => exact hq
    | panic c => exact hq
    | outgrown => exact hq
/-- The goto itself. -/
theorem wp_goto_fwd (h : rest.wp P (Exit.noGoto Q) a w) : (Code.goto l).wp P (exitFwd P l rest Q) a w := wp_goto ⟨rfl, h⟩
end

end Go.Proofs.YtoinabapaeebfaaGreatDoor
