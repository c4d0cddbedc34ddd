/- Bytes of a program: rows of bytes, their texts; what package length's texts have too, for a seat without that package. -/
import Derived.Test.YtodbdojjllabmaaGreatDoorBase
import Derived.Test.YtodbdojjllabmaaGreatDoorProg
import Derived.Laws.AppendOwnNone
import Derived.Laws.IdiomStrings
namespace Go.Proofs.YtodbdojjllabmaaGreatDoor
open Go.RowKit Go.Shelf

theorem Tryz.eByte : ElemT Tryz.prog 52 5 (.int .u8 0) 1 1 := ⟨Tryz.underlying52, by kernel_rfl, rfl⟩
theorem Tryz.infoB : (Tryz.prog.info? 5).map (fun i => (i.zero, i.size, i.bytes)) = some (some (.int .u8 0), 1, 1) := by kernel_rfl
theorem bs_snoc (l : List UInt8) (x : UInt8) : bs (l ++ [x]) = bs l ++ [.int .u8 x.toNat] := by simp [bs]
theorem bs_one (l : List UInt8) : ∀ u ∈ bs l, u.oneCell' = true := by
  intro u hu
  obtain ⟨x, _, rfl⟩ := List.mem_map.1 hu
  rfl

/-- 'append(own, src...)' from whatever source that is not nil. -/
theorem append_src {P : Program} {w : World} {ops : Array Oper} {rest : List Oper} {o : Oper} {a : Act} {Q : Exit → Act → World → Prop} {t e : TypeId} {z : Value} {bytes : Nat} (hgd : o.guard = none) (s x : Operand)
    (ho : o.op = .call { callee := .builtin .append, args := #[s, x], argTypes := #[t, t] }) (E : ElemT P t e z 1 bytes)
    (base : Nat) (v : Value) (n : Nat) (xs : List Value) (hs : a.eval s = v) (hown : w.ownsRow base e 1 v n xs) (ad : Addr) (m c : Nat) (ys : List Value) (hu : ∀ u ∈ ys, u.oneCell' = true)
    (hx : a.eval x = .slice (some ad) m c) (hrow : RowAt w (some ad) m c ys) (h63 : n + m ≤ 140737488355328) (hbytes : (n + m) * bytes ≤ 140737488355328) (hbase : base ≤ w.heap.size)
    (h : ∀ v' w', w'.ownsRow base e 1 v' (n + m) (xs ++ ys) → w.grownBy w' v.ownBlock → (v' = .slice none 0 0 ↔ v = .slice none 0 0 ∧ m = 0) → wpList P ops Q rest (a.put o.dst v') w') : wpList P ops Q (o :: rest) a w := by
  obtain ⟨i, hi, hz0, hz1, hz2⟩ := info_parts E.info
  refine wpList_append_own _ hgd s x t ho base e i z 1 bytes E.ht hi hz0 hz1 hz2 E.hzs (by decide) v n xs hs hown ad m c ys hx (by rw [hrow.len]; omega) ?_ hu ?_ hbytes hbase h
  · intro j u hj
    have hjm : j < m := by have := (List.getElem?_eq_some_iff.1 hj).1; have := hrow.len; omega
    obtain ⟨b, off, ha, hc⟩ := hrow.cells j hjm
    cases ha
    rw [hj] at hc
    by_cases h0 : j = 0
    · subst h0; simpa [Addr.add] using hc
    · simpa [Addr.add, h0] using hc
  · unfold maxLen; omega

/-- 'append(own, src...)' from whatever source. -/
theorem append_any {P : Program} {w : World} {ops : Array Oper} {rest : List Oper} {o : Oper} {a : Act} {Q : Exit → Act → World → Prop} {t e : TypeId} {z : Value} {bytes : Nat} (hgd : o.guard = none) (s x : Operand)
    (ho : o.op = .call { callee := .builtin .append, args := #[s, x], argTypes := #[t, t] }) (E : ElemT P t e z 1 bytes)
    (base : Nat) (v : Value) (n : Nat) (xs : List Value) (hs : a.eval s = v) (hown : w.ownsRow base e 1 v n xs) (ad : Option Addr) (m c : Nat) (ys : List Value) (hu : ∀ u ∈ ys, u.oneCell' = true)
    (hx : a.eval x = .slice ad m c) (hrow : RowAt w ad m c ys) (h63 : n + m ≤ 140737488355328) (hbytes : (n + m) * bytes ≤ 140737488355328) (hbase : base ≤ w.heap.size)
    (h : ∀ v' w', w'.ownsRow base e 1 v' (n + m) (xs ++ ys) → w.grownBy w' v.ownBlock → wpList P ops Q rest (a.put o.dst v') w') : wpList P ops Q (o :: rest) a w := by
  cases ad with
  | some ad => exact append_src hgd s x ho E base v n xs hs hown ad m c ys hu hx hrow h63 hbytes hbase (fun v' w' h1 h2 _ => h v' w' h1 h2)
  | none =>
    obtain ⟨i, hi, hz0, hz1, hz2⟩ := info_parts E.info
    have hc := hrow.hnil rfl
    have hm : m = 0 := by have := hrow.le; omega
    have hy : ys = [] := List.eq_nil_of_length_eq_zero (by rw [hrow.len, hm])
    subst hc hm hy
    refine wpList_append_own_none hgd s x t ho base e i 1 E.ht hi v n xs hs hown hx (h v w (by simpa using hown) (World.grownBy.refl w _))

theorem RowAt.one (w : World) (v : Value) (T : TypeId) : RowAt (w.alloc (.cells #[v] T)) (some ⟨w.heap.size, 0, none⟩) 1 1 [v] := RowAt.new w #[v] T (0, 0) (by simp [maxLen])

theorem run_str {w : World} {a : Option Addr} {n cap : Nat} {l : List UInt8} (h : RowAt w a n cap (bs l)) : (convert 52 9 (.slice a n cap)).run Tryz.prog w = .ok (.string ⟨l.toArray⟩) w := by
  have hn : l.length = n := by have := h.len; rwa [bs_len] at this
  subst hn
  cases a with
  | none =>
    have h0 : l = [] := by
      cases l with
      | nil => rfl
      | cons x l => obtain ⟨_, _, ha, _⟩ := h.cells 0 (by simp); cases ha
    subst h0
    exact run_convert_bytes_nil (w := w) 52 5 Tryz.underlying52 Tryz.underlying5 _ _ 9 Tryz.underlying9
  | some ad =>
    refine run_convert_bytes_back w 52 9 5 ad cap l Tryz.underlying52 Tryz.underlying5 Tryz.underlying9 (fun j hj => ?_)
    obtain ⟨b, off, ha, hc⟩ := h.byte hj
    cases ha
    rw [List.getElem?_eq_getElem hj, Option.getD_some] at hc
    by_cases h0 : j = 0
    · subst h0; simpa [Addr.add] using hc
    · simpa [Addr.add, h0] using hc

theorem Tryz.szB (W : World) : (sizeOf (Tryz.prog.elem 52)).run Tryz.prog W = .ok 1 W := by kernel_rfl
theorem Tryz.uelB : Tryz.prog.underlying 52 = some (.slice (Tryz.prog.elem 52)) := by kernel_rfl
end Go.Proofs.YtodbdojjllabmaaGreatDoor
