/- Append of a whole row, at one operation; reads that are known till an operation far behind. No program in sight. -/
import Derived.Test.YtodbdojjllabmaaGreatDoorApp
import Derived.Laws.AppendOwnNone
namespace Go.Proofs.YtodbdojjllabmaaGreatDoor
open Go.RowKit Go.Shelf

/-- 'append(own, src...)' from whatever source: the operation alone. -/
theorem wp_append_any {P : Program} {w : World} {o : Oper} {a : Act} {K : Act → World → Prop} {Q : Exit → Act → World → Prop} {t e : TypeId} {z : Value} {bytes : Nat} (s x : Operand)
    (ho : o.op = .call { callee := .builtin .append, args := #[s, x], argTypes := #[t, t] }) (E : ElemT P t e z 1 bytes)
    (base : Nat) (v : Value) (n : Nat) (xs : List Value) (hs : a.eval s = v) (hown : w.ownsRow base e 1 v n xs) (ad : Option Addr) (m c : Nat) (ys : List Value) (hu : ∀ u ∈ ys, u.oneCell' = true)
    (hx : a.eval x = .slice ad m c) (hrow : RowAt w ad m c ys) (h63 : n + m ≤ 140737488355328) (hbytes : (n + m) * bytes ≤ 140737488355328) (hbase : base ≤ w.heap.size)
    (h : ∀ v' w', w'.ownsRow base e 1 v' (n + m) (xs ++ ys) → w.grownBy w' v.ownBlock → K (a.put o.dst v') w') : o.wp P a w K Q := by
  obtain ⟨i, hi, hz0, hz1, hz2⟩ := info_parts E.info
  cases ad with
  | some ad =>
    refine wp_append_own _ s x t ho base e i z 1 bytes E.ht hi hz0 hz1 hz2 E.hzs (by decide) v n xs hs hown ad m c ys hx (by rw [hrow.len]; omega) ?_ hu ?_ hbytes hbase (fun v' w' h1 h2 _ => h v' w' h1 h2)
    · intro j u hj
      have hjm : j < m := by have := (List.getElem?_eq_some_iff.1 hj).1; have := hrow.len; omega
      obtain ⟨b, off, ha, hc⟩ := hrow.cells j hjm
      cases ha
      rw [hj] at hc
      by_cases h0 : j = 0
      · subst h0; simpa [Addr.add] using hc
      · simpa [Addr.add, h0] using hc
    · unfold maxLen; omega
  | none =>
    have hc := hrow.hnil rfl
    have hm : m = 0 := by have := hrow.le; omega
    have hy : ys = [] := List.eq_nil_of_length_eq_zero (by rw [hrow.len, hm])
    subst hc hm hy
    have hrun := run_append_owned_none (P := P) (w := w) base t o.type e i 1 E.ht hi v n xs hown
    unfold Oper.wp
    simp [execOp, ho, resolve, invoke, builtin, hs, hx, hrun, Result.andThen]
    exact h v w (by simpa using hown) (World.grownBy.refl w _)

section
variable {P : Program} {ops : Array Oper}
/-- Operation k waits for i, by others too. -/
def waitsT (md : Region.Mode) (ops : Array Oper) (i : Nat) : Nat → Nat → Bool
  | 0, _ => false
  | f + 1, k => match ops[k]? with
    | none => true
    | some o => o.after.any fun e => Region.binds md e && (e.on == i || ((ops[e.on]?).isSome && waitsT md ops i f e.on))
theorem listed_get {md : Region.Mode} {listed : Array Bool} (hc : ClosedL md ops listed) (k : Nat) (h : ops[k]? = none) : listed.getD k false = false := by
  have h1 := Array.getElem?_eq_none_iff.1 h
  have h2 : listed[k]? = none := Array.getElem?_eq_none_iff.2 (by rw [hc.1]; exact h1)
  rw [Array.getD_eq_getD_getElem?, h2]
  rfl
theorem waitsT_spec {md : Region.Mode} {listed : Array Bool} {i : Nat} (hc : ClosedL md ops listed) (hn : listed.getD i true = false) : ∀ (f k : Nat), waitsT md ops i f k = true → listed.getD k false = false
  | 0, _, h => by cases h
  | f + 1, k, h => by
    unfold waitsT at h
    cases hk : ops[k]? with
    | none => exact listed_get hc k hk
    | some o =>
      rw [hk] at h
      obtain ⟨e, he, hb⟩ := Array.any_eq_true'.1 h
      simp only [Bool.and_eq_true, Bool.or_eq_true, beq_iff_eq] at hb
      cases hl : listed.getD k false with
      | false => rfl
      | true =>
        exfalso
        have h1 := hc.2 k o hk hl e he hb.1
        rcases hb.2 with h2 | ⟨-, h2⟩
        · rw [h2] at h1
          rcases Nat.lt_or_ge i listed.size with h' | h'
          · simp [h'] at hn h1; rw [hn] at h1; cases h1
          · simp [Array.getElem?_eq_none h'] at h1
        · have h3 := waitsT_spec hc hn f e.on h2
          rw [h1] at h3
          cases h3
theorem upR.getT {md : Region.Mode} {facts : List Fact} {i : Nat} {w : World} (h : upR md ops facts i w) (k : Nat) (p : World → Prop) (hm : (k, p) ∈ facts) (hw : waitsT md ops i (ops.size + 1) k = true) : p w := by
  obtain ⟨listed, h1, h2, h3⟩ := h
  exact h3 _ hm (waitsT_spec h1 h2 _ _ hw)
variable {KQ : Act → World → Prop} {facts : List Fact} {taken : List Nat} {a : Act} {w : World}
theorem loadT (i : Nat) {oi : Oper} (hi : ops[i]? = some oi) (hB : takeB ops (facts.map (·.1)) taken i = true) (hw : Region.wanted oi (yielded ops a.tmps) = true) {t : TypeId} {x : Operand} (hop : oi.op = .load t x) {u : Value} (hx : a.eval x = u)
    (n : Nat) {k : Nat} {p : World → Prop} (hf : facts[n]? = some (k, p)) (hk : waitsT .any ops i (ops.size + 1) k = true) (v : Value) (hr : ∀ w', p w' → (Instr.loadAt t u).run P w' = .ok v w')
    (h : atR P ops KQ facts (i :: taken) (a.put oi.dst v) w) : atR P ops KQ facts taken a w := by
  refine readyR i hi hB v (.inl ⟨hw, fun w' hu => ?_⟩) h
  have h1 := hr w' (hu.getT k p (List.mem_of_getElem? hf) hk)
  simp only [execOp, hop, hx, Sem.run_bind, h1, Result.andThen_ok, Sem.run_pure]
theorem convT (i : Nat) {oi : Oper} (hi : ops[i]? = some oi) (hB : takeB ops (facts.map (·.1)) taken i = true) (hw : Region.wanted oi (yielded ops a.tmps) = true) {s t : TypeId} {x : Operand} (hop : oi.op = .convert s t x) {u : Value} (hx : a.eval x = u)
    (n : Nat) {k : Nat} {p : World → Prop} (hf : facts[n]? = some (k, p)) (hk : waitsT .any ops i (ops.size + 1) k = true) (v : Value) (hr : ∀ w', p w' → (convert s t u).run P w' = .ok v w')
    (h : atR P ops KQ facts (i :: taken) (a.put oi.dst v) w) : atR P ops KQ facts taken a w := by
  refine readyR i hi hB v (.inl ⟨hw, fun w' hu => ?_⟩) h
  have h1 := hr w' (hu.getT k p (List.mem_of_getElem? hf) hk)
  simp only [execOp, hop, hx, Sem.run_bind, h1, Result.andThen_ok, Sem.run_pure]
end
end Go.Proofs.YtodbdojjllabmaaGreatDoor
