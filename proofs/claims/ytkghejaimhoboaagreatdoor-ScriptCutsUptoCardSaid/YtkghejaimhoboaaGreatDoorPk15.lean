/- Parts of the proof of ScriptCuts: contracts of functions that it reaches, and plain lemmas. No condition of their own. -/
import Derived.Test.YtkghejaimhoboaaGreatDoorPk06
import Derived.Maps.OwnSet
import Derived.Test.YtkghejaimhoboaaGreatDoorPk14
import Derived.Shelf.Strings.Search1
import Derived.Shelf.Strings.Search2
import Derived.Shelf.Strings.Search3
import Derived.Shelf.Strings.Count
import Derived.Shelf.Strings.Split
import Derived.Shelf.Strings.RuneCount
import Derived.Ground.SlgmProg
import Derived.Test.YtkghejaimhoboaaGreatDoorProg
set_option linter.unusedSimpArgs false
set_option linter.unusedVariables false
set_option maxRecDepth 100000
set_option maxHeartbeats 8000000
namespace Go.Proofs.YtkghejaimhoboaaGreatDoor
open Go.RowKit Go.Shelf
section
open Go.RowKit Go.Shelf Go.MapKept Go.ChangeMaps
def fstE (q : IntKind) (es : List MapEntry) (k : Int) : Option Value := match Instr.findNow (.int q) (.int q k) es 0 with
 | some (some (_, v)) => some v
 | _ => none
def IM (q : IntKind) (w : World) (b : Nat) (G : Int -> Option Value) : Prop :=
 ∃ es clock, w.heap[b]? = some (.map es clock) /\ (∀ x ∈ es.toList, IsKey (.int q) x.key) /\ ∀ k, fstE q es.toList k = G k
variable {q : IntKind} {w : World} {b : Nat} {G : Int -> Option Value}
theorem IM.lt (h : IM q w b G) : b < w.heap.size := by
 obtain ⟨es, clock, hb, _⟩ := h
 exact (Array.getElem?_eq_some_iff.1 hb).1
theorem IM.keep {w' : World} (h : IM q w b G) (hk : w'.heap[b]? = w.heap[b]?) : IM q w' b G := by
 obtain ⟨es, clock, hb, he⟩ := h
 exact ⟨es, clock, hk.trans hb, he⟩
theorem IM.below {w' : World} (h : IM q w b G) (hb : Below w.heap.size w w') : IM q w' b G := h.keep (hb.block _ h.lt)
theorem IM.wrote {w' : World} {M : List Nat} (h : IM q w b G) (hb : Wrote M w w') (hM : b ∉ M) : IM q w' b G := h.keep (hb.block _ h.lt hM)
theorem IM.alloc (h : IM q w b G) (o : Obj) : IM q (w.alloc o) b G := h.below ((Below.refl _ w).alloc (Nat.le_refl _) o)
theorem IM.new (w : World) : IM q (w.alloc (.map #[] 0)) w.heap.size (fun _ => none) := ⟨#[], 0, World.alloc_heap_new w _, by simp, fun k => rfl⟩
theorem IM.grown {w' : World} {v : Value} (h : IM q w b G) (hg : w.grownBy w' v.ownBlock) (hv : v.ownBlock ≠ some b) : IM q w' b G := h.keep (hg.block _ h.lt (fun e => hv e.symm))
theorem isKey_int {q : IntKind} {v : Value} (h : IsKey (.int q) v) : ∃ n, v = .int q n := by
 cases v <;> simp [IsKey] at h
 subst h;exact ⟨_, rfl⟩
theorem IM.found (h : IM q w b G) (k : Int) : ∃ es clock, w.heap[b]? = some (.map es clock) /\ (∀ x ∈ es.toList, IsKey (.int q) x.key) /\ (∀ k, fstE q es.toList k = G k) /\
  ((G k = none /\ Instr.findNow (.int q) (.int q k) es.toList 0 = some none) \/ ∃ j v e, G k = some v /\ Instr.findNow (.int q) (.int q k) es.toList 0 = some (some (j, v)) /\ es[j]? = some e /\ e.key = .int q k) := by
 obtain ⟨es, clock, hb, hk, hG⟩ := h
 refine ⟨es, clock, hb, hk, hG, ?_⟩
 have h1 := hG k
 unfold fstE at h1
 rcases findNow_spec (d := .int q) (k := .int q k) (by simp [IsKey]) es.toList 0 hk with ⟨h2, h3⟩ | ⟨j, e, h2, h3, h4⟩
 ·rw [h2] at h1
  exact .inl ⟨h1.symm, h2⟩
 ·rw [h2] at h1
  refine .inr ⟨j, e.val, e, h1.symm, by simpa using h2, by simpa using h3, h4⟩
theorem run_lookup_im {P : Program} (t k e : TypeId) (ht : P.underlying t = some (.map k e)) (hk : P.underlying k = some (.int q)) (h : IM q w b G) (z : Value) (hz : (zeroValue e).run P w = .ok z w) (n : Int) (c : Bool) :
  (Instr.lookup t (.map (some b)) (.int q n) c).run P w = .ok (if c then .tuple #[(G n).getD z, .bool (G n).isSome] else (G n).getD z) w := by
 obtain ⟨es, clock, hb, _, _, h1⟩ := h.found n
 have h2 := fun z => run_checkKey (w := w) hk (k := .int q n) (by simp [IsKey]) z 9999
 rcases h1 with ⟨hl, hf⟩ | ⟨j, v, e', hl, hf, _⟩
 ·have h1 := run_findKey (w := w) hk hf
  simp [Instr.lookup, run_underlying ht, MapKept.run_getObj_map hb, h2, h1, hz, Result.andThen, hl]
 ·have h1 := run_findKey (w := w) hk hf
  simp [Instr.lookup, run_underlying ht, MapKept.run_getObj_map hb, h2, h1, Result.andThen, hl]
theorem findNow_shift' (q : IntKind) (k : Int) (d : Nat) : ∀ (es : List MapEntry) (i : Nat), Instr.findNow (.int q) (.int q k) es (i + d) = (Instr.findNow (.int q) (.int q k) es i).map (Option.map fun p => (p.1 + d, p.2)) := by
 intro es
 induction es with
 | nil => intro i; rfl
 | cons x xs ih =>
  intro i
  simp only [Instr.findNow]
  cases Instr.sameNow (.int q) (.int q k) x.key with
  | none => rfl
  | some r =>
   cases r with
   | true => rfl
   | false =>
    simp only
    rw [show i + d + 1 = (i + 1) + d by omega]
    exact ih (i + 1)
theorem findNow_shift (q : IntKind) (k : Int) (es : List MapEntry) (i : Nat) : Instr.findNow (.int q) (.int q k) es i = (Instr.findNow (.int q) (.int q k) es 0).map (Option.map fun p => (p.1 + i, p.2)) := by
 have := findNow_shift' q k i es 0
 rwa [Nat.zero_add] at this
theorem fstE_cons (q : IntKind) (x : MapEntry) (xs : List MapEntry) (n : Int) (hn : x.key = .int q n) (hk : ∀ y ∈ xs, IsKey (.int q) y.key) (k : Int) : fstE q (x :: xs) k = if k = n then some x.val else fstE q xs k := by
 unfold fstE
 simp only [Instr.findNow, hn, Instr.sameNow, if_true]
 by_cases h : k = n
 ·subst h; simp
 ·have hb : (k == n) = false := by simp [h]
  rw [hb, if_neg h]
  simp only
  rw [findNow_shift q k xs (0 + 1)]
  rcases findNow_spec (d := .int q) (k := .int q k) (by simp [IsKey]) xs 0 hk with ⟨g2, g3⟩ | ⟨j2, e, g2, g3, g4⟩ <;> rw [g2] <;> rfl
theorem fstE_push (q : IntKind) (es : List MapEntry) (n : Int) (v : Value) (c : Nat) (hk : ∀ y ∈ es, IsKey (.int q) y.key) (hn : fstE q es n = none) (k : Int) :
  fstE q (es ++ [{ key := .int q n, val := v, born := c }]) k = if k = n then some v else fstE q es k := by
 induction es with
 | nil =>
  rw [List.nil_append, fstE_cons q _ [] n rfl (by simp)]
 | cons x xs ih =>
  obtain ⟨m, hm⟩ := isKey_int (hk x (by simp))
  have hk' : ∀ y ∈ xs, IsKey (.int q) y.key := fun y hy => hk y (by simp [hy])
  rw [fstE_cons q x xs m hm hk'] at hn
  have hnm : n ≠ m := by intro e; rw [if_pos e] at hn; cases hn
  rw [if_neg hnm] at hn
  rw [List.cons_append, fstE_cons q x _ m hm (by intro y hy; rcases List.mem_append.1 hy with h | h; exact hk' y h; simp at h; subst h; simp [IsKey]), fstE_cons q x xs m hm hk', ih hk' hn]
  by_cases h1 : k = m
  ·subst h1; rw [if_pos rfl, if_neg (Ne.symm hnm)]; simp
  ·rw [if_neg h1, if_neg h1]
theorem fstE_modify (q : IntKind) (n : Int) (v : Value) : ∀ (es : List MapEntry) (i j : Nat) (u : Value), (∀ y ∈ es, IsKey (.int q) y.key) -> Instr.findNow (.int q) (.int q n) es i = some (some (i + j, u)) -> ∀ k,
  fstE q (es.modify j fun e => { e with key := .int q n, val := v }) k = if k = n then some v else fstE q es k := by
 intro es
 induction es with
 | nil => intro i j u _ h; simp [Instr.findNow] at h
 | cons x xs ih =>
  intro i j u hk h k
  obtain ⟨m, hm⟩ := isKey_int (hk x (by simp))
  have hk' : ∀ y ∈ xs, IsKey (.int q) y.key := fun y hy => hk y (by simp [hy])
  have h0 := h
  simp only [Instr.findNow, hm, Instr.sameNow, if_true] at h
  by_cases hnm : n = m
  ·subst hnm
   simp at h
   obtain ⟨rfl, _⟩ := h
   rw [List.modify_zero_cons, fstE_cons q _ xs n rfl hk', fstE_cons q x xs n hm hk']
   by_cases h1 : k = n
   ·rw [if_pos h1, if_pos h1]
   ·rw [if_neg h1, if_neg h1, if_neg h1]
  ·have hb : (n == m) = false := by simp [hnm]
   rw [hb] at h
   simp only at h
   cases j with
   | zero =>
    rcases findNow_spec (d := .int q) (k := .int q n) (by simp [IsKey]) xs (i + 1) hk' with ⟨h2, _⟩ | ⟨j', e, h2, _, _⟩ <;> rw [h2] at h <;> simp at h
    omega
   | succ j =>
    have h1 := ih (i + 1) j u hk' (by rw [show i + 1 + j = i + (j + 1) by omega]; exact h) k
    have hk2 : ∀ y ∈ (xs.modify j fun e => { e with key := .int q n, val := v }), IsKey (.int q) y.key := by
     intro y hy
     obtain ⟨i', hi'⟩ := List.getElem?_of_mem hy
     rw [List.getElem?_modify] at hi'
     cases hx : xs[i']? with
     | none => rw [hx] at hi'; simp at hi'
     | some z =>
      rw [hx] at hi'
      simp at hi'
      split at hi' <;> subst hi'
      ·simp [IsKey]
      ·exact hk' z (List.mem_of_getElem? hx)
    rw [List.modify_succ_cons, fstE_cons q x _ m hm hk2, h1, fstE_cons q x xs m hm hk']
    by_cases h2 : k = m
    ·subst h2; rw [if_pos rfl, if_neg (Ne.symm hnm)]; simp
    ·rw [if_neg h2, if_neg h2]
theorem run_set_im {P : Program} (t k e : TypeId) (ht : P.underlying t = some (.map k e)) (hk : P.underlying k = some (.int q)) (h : IM q w b G) (n : Int) (v : Value) :
  ∃ w', (Instr.mapUpdate t (.map (some b)) (.int q n) v).run P w = .ok () w' /\ IM q w' b (fun k => if k = n then some v else G k) /\ w.grownBy w' (some b) := by
 obtain ⟨es, clock, hb, hkey, hG, h1⟩ := h.found n
 have h2 := run_checkKey (w := w) hk (k := .int q n) (by simp [IsKey]) false 9999
 have hlt : b < w.heap.size := h.lt
 rcases h1 with ⟨hl, hf⟩ | ⟨j, u, e1, hl, hf, hj, hke⟩
 ·have h1 := run_findKey (w := w) hk hf
  refine ⟨setBlock w b (.map (es.push { key := .int q n, val := v, born := clock }) (clock + 1)), ?_, ⟨es.push { key := .int q n, val := v, born := clock }, clock + 1, by simp [setBlock, hlt], ?_, fun k => ?_⟩, World.mapTurned.grown ⟨es, clock, _, _, hb, rfl⟩⟩
  ·simp [Instr.mapUpdate, run_underlying ht, MapKept.run_getObj_map hb, h2, h1, MapKept.run_setObj_map _ hb, Result.andThen, setBlock]
  ·intro x hx
   simp at hx
   rcases hx with hx | rfl
   ·exact hkey x (by simpa using hx)
   ·simp [IsKey]
  ·rw [Array.toList_push, fstE_push q es.toList n v clock hkey (by rw [hG, hl]) k, hG]
 ·have h1 := run_findKey (w := w) hk hf
  refine ⟨setBlock w b (.map (es.modify j fun e => { e with key := .int q n, val := v }) clock), ?_, ⟨es.modify j fun e => { e with key := .int q n, val := v }, clock, by simp [setBlock, hlt], ?_, fun k => ?_⟩, World.mapTurned.grown ⟨es, clock, _, _, hb, rfl⟩⟩
  ·have hsb : Instr.sameBits 10000 (.int q n) (.int q n) = true := by simp [Instr.sameBits]
   simp [Instr.mapUpdate, run_underlying ht, MapKept.run_getObj_map hb, h2, h1, MapKept.run_setObj_map _ hb, Result.andThen, setBlock, hj, hke, Instr.keyThatStays, hsb]
  ·refine isKey_modify hkey j _ (fun e he => ?_)
   rw [hj] at he
   cases he
   exact hke.symm
  ·rw [Array.toList_modify, fstE_modify q n v es.toList 0 j u hkey (by simpa using hf) k, hG]
theorem wpList_set_im {P : Program} {ops : Array Oper} {rest : List Oper} {o : Oper} {a : Act} {Q : Exit -> Act -> World -> Prop}
  (hg : o.guard = none) (m x v : Operand) (t : TypeId) (hop : o.op = Op.insert t m x v) (k e : TypeId) (ht : P.underlying t = some (.map k e)) (hk : P.underlying k = some (.int q)) (h : IM q w b G)
  (hm : a.eval m = .map (some b)) (n : Int) (val : Value) (hx : a.eval x = .int q n) (hv : a.eval v = val)
  (hK : ∀ w', IM q w' b (fun k => if k = n then some val else G k) -> w.grownBy w' (some b) -> wpList P ops Q rest (a.put o.dst undef) w') :
  wpList P ops Q (o :: rest) a w := by
 refine wpList_plain hg fun K' hK' => ?_
 obtain ⟨w', hrun, h1, h2⟩ := run_set_im t k e ht hk h n val
 unfold Oper.wp
 simp [execOp, hop, hm, hx, hv, hrun, Result.andThen]
 exact hK' _ _ (hK _ h1 h2)
theorem wp_update_im {P : Program} {o : Oper} {a : Act} {K : Act -> World -> Prop} {Q : Exit -> Act -> World -> Prop}
  (m x v : Operand) (t : TypeId) (hop : o.op = Op.mapUpdate t m x v) (k e : TypeId) (ht : P.underlying t = some (.map k e)) (hk : P.underlying k = some (.int q)) (h : IM q w b G)
  (hm : a.eval m = .map (some b)) (n : Int) (val : Value) (hx : a.eval x = .int q n) (hv : a.eval v = val)
  (hK : ∀ w', IM q w' b (fun k => if k = n then some val else G k) -> w.grownBy w' (some b) -> K (a.put o.dst undef) w') : o.wp P a w K Q := by
 obtain ⟨w', hrun, h1, h2⟩ := run_set_im t k e ht hk h n val
 unfold Oper.wp
 simp [execOp, hop, hm, hx, hv, hrun, Result.andThen]
 exact hK _ h1 h2
section
variable {P : Program} {ops : Array Oper} {KQ : Exit -> Act -> World -> Prop} {facts : List Fact} {taken : List Nat} {a : Act} {w : World}
theorem lookQ (i : Nat) {oi : Oper} (hi : ops[i]? = some oi) (hB : takeB ops (facts.map (·.1)) taken i = true) (hw : Region.wanted oi (yielded ops a.tmps) = true) {t : TypeId} {x y : Operand} {c : Bool} (hop : oi.op = .lookup t x y c) {u z : Value} (hx : a.eval x = u) (hy : a.eval y = z)
  (n : Nat) {k : Nat} {p : World -> Prop} (hf : facts[n]? = some (k, p)) (hk : waits .any ops k i = true) (v : Value) (hr : ∀ w', p w' -> (Instr.lookup t u z c).run P w' = .ok v w')
  (h : atR P ops KQ facts (i :: taken) (a.put oi.dst v) w) : atR P ops KQ facts taken a w := by
 refine readyR i hi hB v (.inl ⟨hw, fun w' hu => ?_⟩) h
 have h1 := hr w' (hu.get k p (List.mem_of_getElem? hf) hk)
 simp only [execOp, hop, hx, hy, Sem.run_bind, h1, Result.andThen_ok, Sem.run_pure]
theorem lookT (i : Nat) {oi : Oper} (hi : ops[i]? = some oi) (hB : takeB ops (facts.map (·.1)) taken i = true) (hw : Region.wanted oi (yielded ops a.tmps) = true) {t : TypeId} {x y : Operand} {c : Bool} (hop : oi.op = .lookup t x y c) {u z : Value} (hx : a.eval x = u) (hy : a.eval y = z)
  (n : Nat) {k : Nat} {p : World -> Prop} (hf : facts[n]? = some (k, p)) (hk : waitsT .any ops i (ops.size + 1) k = true) (v : Value) (hr : ∀ w', p w' -> (Instr.lookup t u z c).run P w' = .ok v w')
  (h : atR P ops KQ facts (i :: taken) (a.put oi.dst v) w) : atR P ops KQ facts taken a w := by
 refine readyR i hi hB v (.inl ⟨hw, fun w' hu => ?_⟩) h
 have h1 := hr w' (hu.getT k p (List.mem_of_getElem? hf) hk)
 simp only [execOp, hop, hx, hy, Sem.run_bind, h1, Result.andThen_ok, Sem.run_pure]
end
end
section
attribute [local go_sem] Oper.semAt_some
def fnV (f : FuncId) (cap : Array Value) : Value := .func (.func f) #[] cap
def bareV : Value := .agg #[fnV 45 #[], fnV 46 #[], fnV 47 #[], fnV 48 #[]]
def emptyV : Value := .agg #[fnV 45 #[], fnV 49 #[], fnV 47 #[], fnV 48 #[]]
def sayV (c : Nat) : Value := .agg #[fnV 50 #[.pointer (some ⟨c, 0, none⟩)], fnV 52 #[], fnV 53 #[], fnV 56 #[]]
def bytesV (c : Nat) : Value := .agg #[fnV 58 #[.pointer (some ⟨c, 0, none⟩)], fnV 59 #[], fnV 60 #[], fnV 61 #[]]
def armV : Value := .agg #[fnV 62 #[], fnV 63 #[], fnV 64 #[], fnV 66 #[]]
def crashV : Value := .agg #[fnV 67 #[], fnV 70 #[], fnV 71 #[], fnV 72 #[]]
def kindG (c : Nat) (k : Int) : Option Value :=
 if k = 8 then some crashV else if k = 7 then some armV else if k = 3 then some (bytesV c) else if k = 2 then some (sayV c)
 else if k = 6 then some emptyV else if k = 5 then some emptyV else if k = 4 then some bareV else if k = 1 then some bareV else none
theorem blk_grown {w w' : World} {b m : Nat} {cs : Array Value} {T : TypeId} (h : Blk w b cs T) (hg : w.grownBy w' (some m)) (hn : b ≠ m) : Blk w' b cs T :=
 h.keepW (M := [m]) (Wrote.of_grown hg (fun j hj => by cases hj; exact List.mem_singleton.2 rfl)) (by simpa using hn)
theorem sc_kinds (w : World) : Calls Tryz.prog 26 #[] w fun e w' => ∃ m c, e = .returned (.map (some m)) /\ IM .i64 w' m (kindG c) /\ Boxed w' c 66 (fnV 45 #[]) /\ Below w.heap.size w w' := by
 have hmf : ∀ (fn : Fn) (first cap : Array Value) (w : World), (Instr.makeFunc fn first cap).run Tryz.prog w = .ok (.func fn first cap) w := fun _ _ _ _ => rfl
 have hmm := @run_makeMap Tryz.prog
 obtain ⟨W1, hW1⟩ : ∃ W1, w.alloc (.cells #[fnV 45 #[]] 66) = W1 := ⟨_, rfl⟩
 obtain ⟨W2, hW2⟩ : ∃ W2, W1.alloc (.cells #[fnV 45 #[], fnV 46 #[], fnV 47 #[], fnV 48 #[]] 71) = W2 := ⟨_, rfl⟩
 obtain ⟨W3, hW3⟩ : ∃ W3, W2.alloc (.cells #[fnV 45 #[], fnV 49 #[], fnV 47 #[], fnV 48 #[]] 71) = W3 := ⟨_, rfl⟩
 have s1 : W1.heap.size = w.heap.size + 1 := by rw [<- hW1]; simp
 have s2 : W2.heap.size = w.heap.size + 1 + 1 := by rw [<- hW2]; simp [s1]
 have s3 : W3.heap.size = w.heap.size + 1 + 1 + 1 := by rw [<- hW3]; simp [s2]
 have hc : Blk (W3.alloc (.map #[] 0)) w.heap.size #[fnV 45 #[]] 66 := by
  have h1 : Blk W1 w.heap.size #[fnV 45 #[]] 66 := by rw [<- hW1]; exact Blk.new _ _ _
  have h2 := h1.alloc (.cells #[fnV 45 #[], fnV 46 #[], fnV 47 #[], fnV 48 #[]] 71)
  rw [hW2] at h2
  have h3 := h2.alloc (.cells #[fnV 45 #[], fnV 49 #[], fnV 47 #[], fnV 48 #[]] 71)
  rw [hW3] at h3
  exact h3.alloc _
 have h2 : Blk (W3.alloc (.map #[] 0)) (w.heap.size + 1) #[fnV 45 #[], fnV 46 #[], fnV 47 #[], fnV 48 #[]] 71 := by
  have h2 : Blk W2 (w.heap.size + 1) #[fnV 45 #[], fnV 46 #[], fnV 47 #[], fnV 48 #[]] 71 := by rw [<- hW2, <- s1]; exact Blk.new _ _ _
  have h3 := h2.alloc (.cells #[fnV 45 #[], fnV 49 #[], fnV 47 #[], fnV 48 #[]] 71)
  rw [hW3] at h3
  exact h3.alloc _
 have h3 : Blk (W3.alloc (.map #[] 0)) (w.heap.size + 1 + 1) #[fnV 45 #[], fnV 49 #[], fnV 47 #[], fnV 48 #[]] 71 := by
  have h3 : Blk W3 (w.heap.size + 1 + 1) #[fnV 45 #[], fnV 49 #[], fnV 47 #[], fnV 48 #[]] 71 := by rw [<- hW3, <- s2]; exact Blk.new _ _ _
  exact h3.alloc _
 have hI : IM .i64 (W3.alloc (.map #[] 0)) (w.heap.size + 1 + 1 + 1) (fun _ => none) := by rw [<- s3]; exact IM.new _
 have hbel : Below w.heap.size w (W3.alloc (.map #[] 0)) := by
  have b1 : Below w.heap.size w W1 := by rw [<- hW1]; exact (Below.refl _ _).alloc (Nat.le_refl _) _
  have b2 : Below w.heap.size w W2 := by rw [<- hW2]; exact b1.alloc (by omega) _
  have b3 : Below w.heap.size w W3 := by rw [<- hW3]; exact b2.alloc (by omega) _
  exact b3.alloc (by omega) _
 clear s1 s2 s3;subst hW3 hW2 hW1;unfold fnV at *
 go_enter Tryz.func26, Tryz.ntmps26
 go_wp2_with (first
  | (refine wpList_set_im rfl _ _ _ _ rfl _ _ Tryz.underlying73 Tryz.underlying44 hI rfl _ _ rfl rfl ?_; intro wN hI' hg; replace hI := hI'; replace hc := blk_grown hc hg (by omega); replace h2 := blk_grown h2 hg (by omega); replace h3 := blk_grown h3 hg (by omega); replace hbel := hbel.grown hg hbel.size (fun k hk => by cases hk; omega); clear hg hI')
  | (refine wL 71 rfl rfl h2 Tryz.underlying71 ?_)
  | (refine wL 71 rfl rfl h3 Tryz.underlying71 ?_))
 go_ret
 exact ⟨_, rfl, w.heap.size, hI, hc, hbel⟩
end
section
open Go.Shelf
def Tryz.lays143_ren : Go.Shelf.Ren := ⟨fun | 143 => 300 | 219 => 327 | 217 => 328 | 225 => 304 | 224 => 303 | 267 => 349 | 266 => 350 | 314 => 361 | n => n, fun | 9 => 9 | 3 => 3 | 4 => 4 | 5 => 5 | 46 => 144 | 146 => 409 | 51 => 334 | n => n, fun | 1 => 0 | n => n⟩
theorem Tryz.lays143 : Go.Proofs.Lays.n143 Tryz.prog Tryz.lays143_ren := {
 mixed := by kernel_rfl
 f143 := Tryz.func300.trans (congrArg some (by kernel_rfl))
 f217 := Tryz.func328.trans (congrArg some (by kernel_rfl))
 f219 := Tryz.func327.trans (congrArg some (by kernel_rfl))
 f224 := Tryz.func303.trans (congrArg some (by kernel_rfl))
 f225 := Tryz.func304.trans (congrArg some (by kernel_rfl))
 f266 := Tryz.func350.trans (congrArg some (by kernel_rfl))
 f267 := Tryz.func349.trans (congrArg some (by kernel_rfl))
 f314 := Tryz.func361.trans (congrArg some (by kernel_rfl))
 t3 := Tryz.underlying3
 a3 := Tryz.isAgg3
 z3 := Tryz.sizeOf3
 v3 := Tryz.zeroValue3
 t4 := Tryz.underlying4
 a4 := Tryz.isAgg4
 z4 := Tryz.sizeOf4
 v4 := Tryz.zeroValue4
 t5 := Tryz.underlying5
 a5 := Tryz.isAgg5
 z5 := Tryz.sizeOf5
 v5 := Tryz.zeroValue5
 t9 := Tryz.underlying9
 a9 := Tryz.isAgg9
 z9 := Tryz.sizeOf9
 v9 := Tryz.zeroValue9
 t46 := Tryz.underlying144
 a46 := Tryz.isAgg144
 z46 := Tryz.sizeOf144
 v46 := Tryz.zeroValue144
 t51 := Tryz.underlying334
 a51 := Tryz.isAgg334
 z51 := Tryz.sizeOf334
 v51 := Tryz.zeroValue334
 t146 := Tryz.underlying409
 a146 := Tryz.isAgg409
 z146 := Tryz.sizeOf409
 v146 := Tryz.zeroValue409
 g1 := by kernel_rfl }
open Go.RowKit Go.Lib in
theorem Tryz.strings_Index_one (s : ByteArray) (c : UInt8) (w : World) :
  Calls Tryz.prog 300 #[.string s, .string ⟨#[c]⟩] w fun e w' => e = .returned (.int .i64 (Lib.indexByte s.data.toList c)) /\ w' = w := Any.strings_Index_one Tryz.lays143 s c w
def Tryz.lays138_ren : Go.Shelf.Ren := ⟨fun | 138 => 299 | 195 => 324 | 218 => 326 | 143 => 300 | 219 => 327 | 217 => 328 | 225 => 304 | 224 => 303 | 267 => 349 | 266 => 350 | 314 => 361 | n => n, fun | 9 => 9 | 3 => 3 | 4 => 4 | 5 => 5 | 0 => 0 | 46 => 144 | 146 => 409 | 51 => 334 | n => n, fun | 1 => 0 | n => n⟩
theorem Tryz.lays138 : Go.Proofs.Lays.n138 Tryz.prog Tryz.lays138_ren := {
 mixed := by kernel_rfl
 f138 := Tryz.func299.trans (congrArg some (by kernel_rfl))
 f143 := Tryz.func300.trans (congrArg some (by kernel_rfl))
 f195 := Tryz.func324.trans (congrArg some (by kernel_rfl))
 f217 := Tryz.func328.trans (congrArg some (by kernel_rfl))
 f218 := Tryz.func326.trans (congrArg some (by kernel_rfl))
 f219 := Tryz.func327.trans (congrArg some (by kernel_rfl))
 f224 := Tryz.func303.trans (congrArg some (by kernel_rfl))
 f225 := Tryz.func304.trans (congrArg some (by kernel_rfl))
 f266 := Tryz.func350.trans (congrArg some (by kernel_rfl))
 f267 := Tryz.func349.trans (congrArg some (by kernel_rfl))
 f314 := Tryz.func361.trans (congrArg some (by kernel_rfl))
 t0 := Tryz.underlying0
 a0 := Tryz.isAgg0
 z0 := Tryz.sizeOf0
 v0 := Tryz.zeroValue0
 t3 := Tryz.underlying3
 a3 := Tryz.isAgg3
 z3 := Tryz.sizeOf3
 v3 := Tryz.zeroValue3
 t4 := Tryz.underlying4
 a4 := Tryz.isAgg4
 z4 := Tryz.sizeOf4
 v4 := Tryz.zeroValue4
 t5 := Tryz.underlying5
 a5 := Tryz.isAgg5
 z5 := Tryz.sizeOf5
 v5 := Tryz.zeroValue5
 t9 := Tryz.underlying9
 a9 := Tryz.isAgg9
 z9 := Tryz.sizeOf9
 v9 := Tryz.zeroValue9
 t46 := Tryz.underlying144
 a46 := Tryz.isAgg144
 z46 := Tryz.sizeOf144
 v46 := Tryz.zeroValue144
 t51 := Tryz.underlying334
 a51 := Tryz.isAgg334
 z51 := Tryz.sizeOf334
 v51 := Tryz.zeroValue334
 t146 := Tryz.underlying409
 a146 := Tryz.isAgg409
 z146 := Tryz.sizeOf409
 v146 := Tryz.zeroValue409
 g1 := by kernel_rfl }
open Go.RowKit Go.Lib in
theorem Tryz.strings_Count_one (s : ByteArray) (c : UInt8) (w : World) :
  Calls Tryz.prog 299 #[.string s, .string ⟨#[c]⟩] w fun e w' => e = .returned (.int .i64 (Lib.countByte s.data.toList c)) /\ w' = w := Any.strings_Count_one Tryz.lays138 s c w
def Tryz.lays221_ren : Go.Shelf.Ren := ⟨fun | 221 => 279 | 268 => 298 | 138 => 299 | 143 => 300 | 195 => 324 | 197 => 325 | 218 => 326 | 219 => 327 | 260 => 348 | 217 => 328 | 225 => 304 | 224 => 303 | 267 => 349 | 266 => 350 | 314 => 361 | n => n, fun | 9 => 9 | 3 => 3 | 31 => 50 | 4 => 4 | 0 => 0 | 105 => 326 | 21 => 21 | 5 => 5 | 46 => 144 | 119 => 405 | 139 => 408 | 138 => 407 | 146 => 409 | 51 => 334 | n => n, fun | 1 => 0 | 3 => 2 | 4 => 3 | n => n⟩
theorem Tryz.lays221 : Go.Proofs.Lays.n221 Tryz.prog Tryz.lays221_ren := {
 mixed := by kernel_rfl
 f138 := Tryz.func299.trans (congrArg some (by kernel_rfl))
 f143 := Tryz.func300.trans (congrArg some (by kernel_rfl))
 f195 := Tryz.func324.trans (congrArg some (by kernel_rfl))
 f197 := Tryz.func325.trans (congrArg some (by kernel_rfl))
 f217 := Tryz.func328.trans (congrArg some (by kernel_rfl))
 f218 := Tryz.func326.trans (congrArg some (by kernel_rfl))
 f219 := Tryz.func327.trans (congrArg some (by kernel_rfl))
 f221 := Tryz.func279.trans (congrArg some (by kernel_rfl))
 f224 := Tryz.func303.trans (congrArg some (by kernel_rfl))
 f225 := Tryz.func304.trans (congrArg some (by kernel_rfl))
 f260 := Tryz.func348.trans (congrArg some (by kernel_rfl))
 f266 := Tryz.func350.trans (congrArg some (by kernel_rfl))
 f267 := Tryz.func349.trans (congrArg some (by kernel_rfl))
 f268 := Tryz.func298.trans (congrArg some (by kernel_rfl))
 f314 := Tryz.func361.trans (congrArg some (by kernel_rfl))
 t0 := Tryz.underlying0
 a0 := Tryz.isAgg0
 z0 := Tryz.sizeOf0
 v0 := Tryz.zeroValue0
 t3 := Tryz.underlying3
 a3 := Tryz.isAgg3
 z3 := Tryz.sizeOf3
 v3 := Tryz.zeroValue3
 t4 := Tryz.underlying4
 a4 := Tryz.isAgg4
 z4 := Tryz.sizeOf4
 v4 := Tryz.zeroValue4
 t5 := Tryz.underlying5
 a5 := Tryz.isAgg5
 z5 := Tryz.sizeOf5
 v5 := Tryz.zeroValue5
 t9 := Tryz.underlying9
 a9 := Tryz.isAgg9
 z9 := Tryz.sizeOf9
 v9 := Tryz.zeroValue9
 t21 := Tryz.underlying21
 a21 := Tryz.isAgg21
 z21 := Tryz.sizeOf21
 v21 := Tryz.zeroValue21
 t31 := Tryz.underlying50
 a31 := Tryz.isAgg50
 z31 := Tryz.sizeOf50
 v31 := Tryz.zeroValue50
 t46 := Tryz.underlying144
 a46 := Tryz.isAgg144
 z46 := Tryz.sizeOf144
 v46 := Tryz.zeroValue144
 t51 := Tryz.underlying334
 a51 := Tryz.isAgg334
 z51 := Tryz.sizeOf334
 v51 := Tryz.zeroValue334
 t105 := Tryz.underlying326
 a105 := Tryz.isAgg326
 z105 := Tryz.sizeOf326
 v105 := Tryz.zeroValue326
 t119 := Tryz.underlying405
 a119 := Tryz.isAgg405
 z119 := Tryz.sizeOf405
 t138 := Tryz.underlying407
 a138 := Tryz.isAgg407
 z138 := Tryz.sizeOf407
 v138 := Tryz.zeroValue407
 t139 := Tryz.underlying408
 a139 := Tryz.isAgg408
 z139 := Tryz.sizeOf408
 v139 := Tryz.zeroValue408
 t146 := Tryz.underlying409
 a146 := Tryz.isAgg409
 z146 := Tryz.sizeOf409
 v146 := Tryz.zeroValue409
 g1 := by kernel_rfl
 g3 := by kernel_rfl
 g4 := by kernel_rfl }
end
end Go.Proofs.YtkghejaimhoboaaGreatDoor
