/- Maps with integer keys whose entries are known: an entry is set, an entry is looked up. -/
import Derived.Test.YtodbdojjllabmaaGreatDoorAppB
import Derived.Maps.OwnOps
namespace Go.Proofs.YtodbdojjllabmaaGreatDoor
open Go.RowKit Go.Shelf Go.MapKept Go.ChangeMaps

theorem findNow_none (q : IntKind) (n : Int) : ∀ (es : List MapEntry) (i : Nat), (∀ x : MapEntry, x ∈ es → ∃ a, x.key = .int q a ∧ a ≠ n) → Instr.findNow (.int q) (.int q n) es i = some none := by
  intro es
  induction es with
  | nil => intro i _; rfl
  | cons e es ih =>
    intro i h
    obtain ⟨a, ha, hn⟩ := h e (by simp)
    have hb : (n == a) = false := by simp; omega
    simp [Instr.findNow, ha, Instr.sameNow, hb]
    exact ih _ (fun x hx => h x (by simp [hx]))

/-- The entries behind an entry. -/
def putE (es : Array MapEntry) (key val : Value) (clock : Nat) : Array MapEntry := es.push { key, val, born := clock }

theorem run_mapUpdate_new {P : Program} (t k e : TypeId) (q : IntKind) (ht : P.underlying t = some (.map k e)) (hk : P.underlying k = some (.int q)) (w : World) (b : Nat) (es : Array MapEntry) (clock : Nat)
    (hb : w.heap[b]? = some (.map es clock)) (n : Int) (hn : ∀ x : MapEntry, x ∈ es.toList → ∃ a, x.key = .int q a ∧ a ≠ n) (v : Value) :
    (Instr.mapUpdate t (.map (some b)) (.int q n) v).run P w = .ok () (setBlock w b (.map (putE es (.int q n) v clock) (clock + 1))) := by
  have h1 := run_findKey (w := w) hk (findNow_none q n es.toList 0 hn)
  have h2 := run_checkKey (w := w) hk (k := .int q n) (by simp [IsKey]) false 9999
  simp [Instr.mapUpdate, run_underlying ht, MapKept.run_getObj_map hb, h2, h1, MapKept.run_setObj_map _ hb, Result.andThen, setBlock, putE]

/-- An entry is set whose key is new. -/
theorem wpList_insert_new {P : Program} (w : World) {ops : Array Oper} {rest : List Oper} {o : Oper} {a : Act} {Q : Exit → Act → World → Prop}
    (hg : o.guard = none) (m x v : Operand) (t : TypeId) (hop : o.op = Op.insert t m x v)
    (k e : TypeId) (q : IntKind) (ht : P.underlying t = some (.map k e)) (hk : P.underlying k = some (.int q)) (b : Nat) (es : Array MapEntry) (clock : Nat)
    (hm : a.eval m = .map (some b)) (hb : w.heap[b]? = some (.map es clock)) (n : Int) (val : Value) (hx : a.eval x = .int q n) (hv : a.eval v = val)
    (hn : ∀ x : MapEntry, x ∈ es.toList → ∃ a, x.key = .int q a ∧ a ≠ n)
    (hK : ∀ w', w'.heap[b]? = some (.map (putE es (.int q n) val clock) (clock + 1)) → w.grownBy w' (some b) → wpList P ops Q rest (a.put o.dst undef) w') :
    wpList P ops Q (o :: rest) a w := by
  refine wpList_plain hg fun K' hK' => ?_
  have hrun := run_mapUpdate_new t k e q ht hk w b es clock hb n hn val
  unfold Oper.wp
  simp [execOp, hop, hm, hx, hv, hrun, Result.andThen]
  refine hK' _ _ (hK _ ?_ ?_)
  · have : b < w.heap.size := by rcases Nat.lt_or_ge b w.heap.size with h | h; exact h; rw [Array.getElem?_eq_none h] at hb; cases hb
    simp [setBlock, this]
  · exact World.mapTurned.grown ⟨es, clock, _, _, hb, rfl⟩

/-- An entry that is there is found. -/
theorem run_lookup_at {P : Program} (t k e : TypeId) (q : IntKind) (ht : P.underlying t = some (.map k e)) (hk : P.underlying k = some (.int q)) (w : World) (b : Nat) (es : Array MapEntry) (clock : Nat)
    (hb : w.heap[b]? = some (.map es clock)) (n : Int) (v : Value) (j : Nat) (hn : Instr.findNow (.int q) (.int q n) es.toList 0 = some (some (j, v))) (c : Bool) :
    (Instr.lookup t (.map (some b)) (.int q n) c).run P w = .ok (if c then .tuple #[v, .bool true] else v) w := by
  have h1 := run_findKey (w := w) hk hn
  have h2 := fun z => run_checkKey (w := w) hk (k := .int q n) (by simp [IsKey]) z 9999
  simp [Instr.lookup, run_underlying ht, MapKept.run_getObj_map hb, h2, h1, Result.andThen]

/-- One that is not there is not. -/
theorem run_lookup_not {P : Program} (t k e : TypeId) (q : IntKind) (ht : P.underlying t = some (.map k e)) (hk : P.underlying k = some (.int q)) (w : World) (b : Nat) (es : Array MapEntry) (clock : Nat) (z : Value)
    (hz : (zeroValue e).run P w = .ok z w)
    (hb : w.heap[b]? = some (.map es clock)) (n : Int) (hn : ∀ x : MapEntry, x ∈ es.toList → ∃ a, x.key = .int q a ∧ a ≠ n) (c : Bool) :
    (Instr.lookup t (.map (some b)) (.int q n) c).run P w = .ok (if c then .tuple #[z, .bool false] else z) w := by
  have h1 := run_findKey (w := w) hk (findNow_none q n es.toList 0 hn)
  have h2 := fun z => run_checkKey (w := w) hk (k := .int q n) (by simp [IsKey]) z 9999
  simp [Instr.lookup, run_underlying ht, MapKept.run_getObj_map hb, h2, h1, hz, Result.andThen]
end Go.Proofs.YtodbdojjllabmaaGreatDoor
