/- Parts of the proof of SessionRows: contracts of functions that it reaches, and plain lemmas. No condition of their own. -/
import Derived.Test.YtoinabapaeebfaaGreatDoorPk13
import Derived.Test.YtoinabapaeebfaaGreatDoorPk21
import Derived.Test.YtoinabapaeebfaaGreatDoorPk22
import Derived.Test.YtoinabapaeebfaaGreatDoorPk23
import Derived.Test.YtoinabapaeebfaaGreatDoorPk05
import Derived.Maps.OwnSet
import Derived.Test.YtoinabapaeebfaaGreatDoorPk16
set_option linter.unusedSimpArgs false
set_option linter.unusedVariables false
set_option maxRecDepth 100000
set_option maxHeartbeats 8000000
namespace Go.Proofs.YtoinabapaeebfaaGreatDoor
open Go.RowKit Go.Shelf
section
def zS : Array Value := #[.int .i64 0, .int .i64 0, .int .i64 0, .int .i64 0, .string ⟨#[]⟩, .int .i64 0, .int .i64 0, .int .i64 0, .int .i64 0, .slice none 0 0, .slice none 0 0, .slice none 0 0, .slice none 0 0, .slice none 0 0, .bool false, .bool false, .int .i64 0, .int .i64 0, .string ⟨#[]⟩, .string ⟨#[]⟩, .int .i64 0, .bool false]
theorem r21_Find (id : Int) (w : World) :
  Calls Tryz.prog 192 #[.slice none 0 0, .int .i64 id] w fun e w' => e = .returned (.tuple #[.int .i64 0, .bool false]) /\ Below w.heap.size w w' := by
 go_enter Tryz.func192, Tryz.ntmps192
 go_wp2_with fail
 go_loopw [6] (fun i wr => i = .int .i64 0 /\ wr = w) (fun _ _ => 0)
 case atStart => exact ⟨rfl, rfl⟩
 case round =>
  obtain ⟨rfl, rfl⟩ := hrel
  go_wp2_with fail
  go_quiet (fail)
  go_wp2
  go_returns
  exact ⟨rfl, below_drewN' _ _⟩
theorem r21_Come (id : Int) (w : World) :
  Calls Tryz.prog 132 #[.slice none 0 0, .int .i64 0, .int .i64 id] w fun e w' => ∃ no, e = .returned (.tuple #[.slice none 0 0, .bool false, .int .i64 no]) /\ Below w.heap.size w w' := by
 have CF := hid (r21_Find id w)
 by_cases h1 : id < 1
 ·have d1 : decide (id < 1) = true := decide_eq_true h1
  go_enter Tryz.func132, Tryz.ntmps132
  go_wp2_with fail
  go_returns
  first | exact ⟨_, rfl, Below.refl _ _⟩ | exact ⟨⟨_, rfl⟩, Below.refl _ _⟩
 have d1 : decide (id < 1) = false := decide_eq_false h1
 by_cases h2 : 65535 < id
 ·have d2 : decide (65535 < id) = true := decide_eq_true h2
  go_enter Tryz.func132, Tryz.ntmps132
  go_wp2_with fail
  go_returns
  first | exact ⟨_, rfl, Below.refl _ _⟩ | exact ⟨⟨_, rfl⟩, Below.refl _ _⟩
 have d2 : decide (65535 < id) = false := decide_eq_false h2
 go_enter Tryz.func132, Tryz.ntmps132
 go_wp2_with (go_at_call 192; refine CF.out.mono ?_; rintro e w1 ⟨rfl, hb⟩)
 go_returns
 first | exact ⟨_, rfl, hb⟩ | exact ⟨⟨_, rfl⟩, hb⟩
theorem r21_Go (id : Int) (w : World) :
  Calls Tryz.prog 135 #[.slice none 0 0, .int .i64 id] w fun e w' => ∃ no, e = .returned (.tuple #[.slice none 0 0, .bool false, .int .i64 no]) /\ Below w.heap.size w w' := by
 have CF := hid (r21_Find id w)
 by_cases h1 : id < 1
 ·have d1 : decide (id < 1) = true := decide_eq_true h1
  go_enter Tryz.func135, Tryz.ntmps135
  go_wp2_with fail
  go_returns
  first | exact ⟨_, rfl, Below.refl _ _⟩ | exact ⟨⟨_, rfl⟩, Below.refl _ _⟩
 have d1 : decide (id < 1) = false := decide_eq_false h1
 by_cases h2 : 65535 < id
 ·have d2 : decide (65535 < id) = true := decide_eq_true h2
  go_enter Tryz.func135, Tryz.ntmps135
  go_wp2_with fail
  go_returns
  first | exact ⟨_, rfl, Below.refl _ _⟩ | exact ⟨⟨_, rfl⟩, Below.refl _ _⟩
 have d2 : decide (65535 < id) = false := decide_eq_false h2
 go_enter Tryz.func135, Tryz.ntmps135
 go_wp2_with (go_at_call 192; refine CF.out.mono ?_; rintro e w1 ⟨rfl, hb⟩)
 go_returns
 first | exact ⟨_, rfl, hb⟩ | exact ⟨⟨_, rfl⟩, hb⟩
theorem r23_find (f : List UInt8) (w : World) :
  Calls Tryz.prog 128 #[.agg zS, .string ⟨f.toArray⟩] w fun e w' => e = .returned (.tuple #[.int .i64 0, .bool false]) /\ Below w.heap.size w w' := by
 have hB := hid (Blk.new w zS 97)
 go_enter Tryz.func128, Tryz.ntmps128
 have k13 : (w.alloc (.cells zS 97)).cell? ⟨w.heap.size, 13, none⟩ = some (.slice none 0 0) := hB.out.cell 13
 go_wp2_with fail
 go_loopw [6] (fun i wr => i = .int .i64 0 /\ wr = w.alloc (.cells zS 97)) (fun _ _ => 0)
 case atStart => exact ⟨rfl, rfl⟩
 case round =>
  obtain ⟨rfl, rfl⟩ := hrel
  go_wp2_with fail
  go_quiet (fail)
  go_wp2
  go_returns
  exact ⟨rfl, ((Below.refl _ w).alloc (Nat.le_refl _) _).trans ((below_drewN' _ _).mono (by simp))⟩
theorem r23_will (v : WillV) (w : World) (ht : v.topic.length <= 1000000) :
  Calls Tryz.prog 194 #[.agg v.vals] w fun e w' => (∃ b, e = .returned (.bool b)) /\ Below w.heap.size w w' := by
 have CN := hid fun W => r13_Name v.topic W ht
 have hB := hid (Blk.new w v.vals 67)
 obtain ⟨tp, bd, qs, rt⟩ := v
 unfold WillV.vals at *
 have k0 : (w.alloc (.cells #[.string ⟨tp.toArray⟩, .string ⟨bd.toArray⟩, .int .i64 qs, .bool rt] 67)).cell? ⟨w.heap.size, 0, none⟩ = some (.string ⟨tp.toArray⟩) := hB.out.cell 0
 have hsz : ByteArray.size ⟨bd.toArray⟩ = bd.length := by simp [ByteArray.size]
 dsimp only at CN
 have hbo : ∀ W, Below (w.heap.size + 1) (w.alloc (.cells #[.string ⟨tp.toArray⟩, .string ⟨bd.toArray⟩, .int .i64 qs, .bool rt] 67)) W -> Below w.heap.size w W := fun W hb => ((Below.refl _ w).alloc (Nat.le_refl _) _).trans (hb.mono (by simp))
 cases hm : nameR tp with
 | false =>
  rw [hm] at CN
  go_enter Tryz.func194, Tryz.ntmps194
  go_wp2_with (go_at_call 106; refine (CN.out _).mono ?_; rintro e w1 ⟨rfl, hb⟩)
  go_returns
  exact ⟨⟨_, rfl⟩, hbo _ (by simpa using hb)⟩
 | true =>
  rw [hm] at CN
  by_cases h1 : (bd.length : Int) <= 2000
  ·have d1 : decide ((bd.length : Int) <= 2000) = true := decide_eq_true h1
   by_cases h2 : 0 <= qs
   ·have d2 : decide (0 <= qs) = true := decide_eq_true h2
    go_enter Tryz.func194, Tryz.ntmps194
    go_wp2_with (go_at_call 106; refine (CN.out _).mono ?_; rintro e w1 ⟨rfl, hb⟩; have k1 : w1.cell? ⟨w.heap.size, 1, none⟩ = some (.string ⟨bd.toArray⟩) := (hB.out.below hb).cell 1; have k2 : w1.cell? ⟨w.heap.size, 2, none⟩ = some (.int .i64 qs) := (hB.out.below hb).cell 2)
    go_returns
    exact ⟨⟨_, rfl⟩, hbo _ (by simpa using hb)⟩
   ·have d2 : decide (0 <= qs) = false := decide_eq_false h2
    go_enter Tryz.func194, Tryz.ntmps194
    go_wp2_with (go_at_call 106; refine (CN.out _).mono ?_; rintro e w1 ⟨rfl, hb⟩; have k1 : w1.cell? ⟨w.heap.size, 1, none⟩ = some (.string ⟨bd.toArray⟩) := (hB.out.below hb).cell 1; have k2 : w1.cell? ⟨w.heap.size, 2, none⟩ = some (.int .i64 qs) := (hB.out.below hb).cell 2)
    go_returns
    exact ⟨⟨_, rfl⟩, hbo _ (by simpa using hb)⟩
  ·have d1 : decide ((bd.length : Int) <= 2000) = false := decide_eq_false h1
   go_enter Tryz.func194, Tryz.ntmps194
   go_wp2_with (go_at_call 106; refine (CN.out _).mono ?_; rintro e w1 ⟨rfl, hb⟩; have k1 : w1.cell? ⟨w.heap.size, 1, none⟩ = some (.string ⟨bd.toArray⟩) := (hB.out.below hb).cell 1)
   go_returns
   exact ⟨⟨_, rfl⟩, hbo _ (by simpa using hb)⟩
end
section
open Go.RowKit Go.Shelf Go.MapKept Go.ChangeMaps
def fstE (q : IntKind) (es : List MapEntry) (k : Int) : Option Value := match Instr.findNow (.int q) (.int q k) es 0 with
 | some (some (_, v)) => some v
 | _ => none
def IM (q : IntKind) (w : World) (b : Nat) (G : Int -> Option Value) : Prop :=
 ∃ es clock, w.heap[b]? = some (.map es clock) /\ (∀ x ∈ es.toList, IsKey (.int q) x.key) /\ ∀ k, fstE q es.toList k = G k
variable {q : IntKind} {w : World} {b : Nat} {G : Int -> Option Value}
theorem IM.lt (h : IM q w b G) : b < w.heap.size := by
 obtain ⟨es, clock, hb, _⟩ := h
 exact (Array.getElem?_eq_some_iff.1 hb).1
theorem IM.keep {w' : World} (h : IM q w b G) (hk : w'.heap[b]? = w.heap[b]?) : IM q w' b G := by
 obtain ⟨es, clock, hb, he⟩ := h
 exact ⟨es, clock, hk.trans hb, he⟩
theorem IM.below {w' : World} (h : IM q w b G) (hb : Below w.heap.size w w') : IM q w' b G := h.keep (hb.block _ h.lt)
theorem IM.wrote {w' : World} {M : List Nat} (h : IM q w b G) (hb : Wrote M w w') (hM : b ∉ M) : IM q w' b G := h.keep (hb.block _ h.lt hM)
theorem IM.alloc (h : IM q w b G) (o : Obj) : IM q (w.alloc o) b G := h.below ((Below.refl _ w).alloc (Nat.le_refl _) o)
theorem IM.new (w : World) : IM q (w.alloc (.map #[] 0)) w.heap.size (fun _ => none) := ⟨#[], 0, World.alloc_heap_new w _, by simp, fun k => rfl⟩
theorem IM.grown {w' : World} {v : Value} (h : IM q w b G) (hg : w.grownBy w' v.ownBlock) (hv : v.ownBlock ≠ some b) : IM q w' b G := h.keep (hg.block _ h.lt (fun e => hv e.symm))
theorem isKey_int {q : IntKind} {v : Value} (h : IsKey (.int q) v) : ∃ n, v = .int q n := by
 cases v <;> simp [IsKey] at h
 subst h;exact ⟨_, rfl⟩
theorem IM.found (h : IM q w b G) (k : Int) : ∃ es clock, w.heap[b]? = some (.map es clock) /\ (∀ x ∈ es.toList, IsKey (.int q) x.key) /\ (∀ k, fstE q es.toList k = G k) /\
  ((G k = none /\ Instr.findNow (.int q) (.int q k) es.toList 0 = some none) \/ ∃ j v e, G k = some v /\ Instr.findNow (.int q) (.int q k) es.toList 0 = some (some (j, v)) /\ es[j]? = some e /\ e.key = .int q k) := by
 obtain ⟨es, clock, hb, hk, hG⟩ := h
 refine ⟨es, clock, hb, hk, hG, ?_⟩
 have h1 := hG k
 unfold fstE at h1
 rcases findNow_spec (d := .int q) (k := .int q k) (by simp [IsKey]) es.toList 0 hk with ⟨h2, h3⟩ | ⟨j, e, h2, h3, h4⟩
 ·rw [h2] at h1
  exact .inl ⟨h1.symm, h2⟩
 ·rw [h2] at h1
  refine .inr ⟨j, e.val, e, h1.symm, by simpa using h2, by simpa using h3, h4⟩
theorem run_lookup_im {P : Program} (t k e : TypeId) (ht : P.underlying t = some (.map k e)) (hk : P.underlying k = some (.int q)) (h : IM q w b G) (z : Value) (hz : (zeroValue e).run P w = .ok z w) (n : Int) (c : Bool) :
  (Instr.lookup t (.map (some b)) (.int q n) c).run P w = .ok (if c then .tuple #[(G n).getD z, .bool (G n).isSome] else (G n).getD z) w := by
 obtain ⟨es, clock, hb, _, _, h1⟩ := h.found n
 have h2 := fun z => run_checkKey (w := w) hk (k := .int q n) (by simp [IsKey]) z 9999
 rcases h1 with ⟨hl, hf⟩ | ⟨j, v, e', hl, hf, _⟩
 ·have h1 := run_findKey (w := w) hk hf
  simp [Instr.lookup, run_underlying ht, MapKept.run_getObj_map hb, h2, h1, hz, Result.andThen, hl]
 ·have h1 := run_findKey (w := w) hk hf
  simp [Instr.lookup, run_underlying ht, MapKept.run_getObj_map hb, h2, h1, Result.andThen, hl]
theorem findNow_shift' (q : IntKind) (k : Int) (d : Nat) : ∀ (es : List MapEntry) (i : Nat), Instr.findNow (.int q) (.int q k) es (i + d) = (Instr.findNow (.int q) (.int q k) es i).map (Option.map fun p => (p.1 + d, p.2)) := by
 intro es
 induction es with
 | nil => intro i; rfl
 | cons x xs ih =>
  intro i
  simp only [Instr.findNow]
  cases Instr.sameNow (.int q) (.int q k) x.key with
  | none => rfl
  | some r =>
   cases r with
   | true => rfl
   | false =>
    simp only
    rw [show i + d + 1 = (i + 1) + d by omega]
    exact ih (i + 1)
theorem findNow_shift (q : IntKind) (k : Int) (es : List MapEntry) (i : Nat) : Instr.findNow (.int q) (.int q k) es i = (Instr.findNow (.int q) (.int q k) es 0).map (Option.map fun p => (p.1 + i, p.2)) := by
 have := findNow_shift' q k i es 0
 rwa [Nat.zero_add] at this
theorem fstE_cons (q : IntKind) (x : MapEntry) (xs : List MapEntry) (n : Int) (hn : x.key = .int q n) (hk : ∀ y ∈ xs, IsKey (.int q) y.key) (k : Int) : fstE q (x :: xs) k = if k = n then some x.val else fstE q xs k := by
 unfold fstE
 simp only [Instr.findNow, hn, Instr.sameNow, if_true]
 by_cases h : k = n
 ·subst h; simp
 ·have hb : (k == n) = false := by simp [h]
  rw [hb, if_neg h]
  simp only
  rw [findNow_shift q k xs (0 + 1)]
  rcases findNow_spec (d := .int q) (k := .int q k) (by simp [IsKey]) xs 0 hk with ⟨g2, g3⟩ | ⟨j2, e, g2, g3, g4⟩ <;> rw [g2] <;> rfl
theorem fstE_push (q : IntKind) (es : List MapEntry) (n : Int) (v : Value) (c : Nat) (hk : ∀ y ∈ es, IsKey (.int q) y.key) (hn : fstE q es n = none) (k : Int) :
  fstE q (es ++ [{ key := .int q n, val := v, born := c }]) k = if k = n then some v else fstE q es k := by
 induction es with
 | nil =>
  rw [List.nil_append, fstE_cons q _ [] n rfl (by simp)]
 | cons x xs ih =>
  obtain ⟨m, hm⟩ := isKey_int (hk x (by simp))
  have hk' : ∀ y ∈ xs, IsKey (.int q) y.key := fun y hy => hk y (by simp [hy])
  rw [fstE_cons q x xs m hm hk'] at hn
  have hnm : n ≠ m := by intro e; rw [if_pos e] at hn; cases hn
  rw [if_neg hnm] at hn
  rw [List.cons_append, fstE_cons q x _ m hm (by intro y hy; rcases List.mem_append.1 hy with h | h; exact hk' y h; simp at h; subst h; simp [IsKey]), fstE_cons q x xs m hm hk', ih hk' hn]
  by_cases h1 : k = m
  ·subst h1; rw [if_pos rfl, if_neg (Ne.symm hnm)]; simp
  ·rw [if_neg h1, if_neg h1]
theorem fstE_modify (q : IntKind) (n : Int) (v : Value) : ∀ (es : List MapEntry) (i j : Nat) (u : Value), (∀ y ∈ es, IsKey (.int q) y.key) -> Instr.findNow (.int q) (.int q n) es i = some (some (i + j, u)) -> ∀ k,
  fstE q (es.modify j fun e => { e with key := .int q n, val := v }) k = if k = n then some v else fstE q es k := by
 intro es
 induction es with
 | nil => intro i j u _ h; simp [Instr.findNow] at h
 | cons x xs ih =>
  intro i j u hk h k
  obtain ⟨m, hm⟩ := isKey_int (hk x (by simp))
  have hk' : ∀ y ∈ xs, IsKey (.int q) y.key := fun y hy => hk y (by simp [hy])
  have h0 := h
  simp only [Instr.findNow, hm, Instr.sameNow, if_true] at h
  by_cases hnm : n = m
  ·subst hnm
   simp at h
   obtain ⟨rfl, _⟩ := h
   rw [List.modify_zero_cons, fstE_cons q _ xs n rfl hk', fstE_cons q x xs n hm hk']
   by_cases h1 : k = n
   ·rw [if_pos h1, if_pos h1]
   ·rw [if_neg h1, if_neg h1, if_neg h1]
  ·have hb : (n == m) = false := by simp [hnm]
   rw [hb] at h
   simp only at h
   cases j with
   | zero =>
    rcases findNow_spec (d := .int q) (k := .int q n) (by simp [IsKey]) xs (i + 1) hk' with ⟨h2, _⟩ | ⟨j', e, h2, _, _⟩ <;> rw [h2] at h <;> simp at h
    omega
   | succ j =>
    have h1 := ih (i + 1) j u hk' (by rw [show i + 1 + j = i + (j + 1) by omega]; exact h) k
    have hk2 : ∀ y ∈ (xs.modify j fun e => { e with key := .int q n, val := v }), IsKey (.int q) y.key := by
     intro y hy
     obtain ⟨i', hi'⟩ := List.getElem?_of_mem hy
     rw [List.getElem?_modify] at hi'
     cases hx : xs[i']? with
     | none => rw [hx] at hi'; simp at hi'
     | some z =>
      rw [hx] at hi'
      simp at hi'
      split at hi' <;> subst hi'
      ·simp [IsKey]
      ·exact hk' z (List.mem_of_getElem? hx)
    rw [List.modify_succ_cons, fstE_cons q x _ m hm hk2, h1, fstE_cons q x xs m hm hk']
    by_cases h2 : k = m
    ·subst h2; rw [if_pos rfl, if_neg (Ne.symm hnm)]; simp
    ·rw [if_neg h2, if_neg h2]
theorem run_set_im {P : Program} (t k e : TypeId) (ht : P.underlying t = some (.map k e)) (hk : P.underlying k = some (.int q)) (h : IM q w b G) (n : Int) (v : Value) :
  ∃ w', (Instr.mapUpdate t (.map (some b)) (.int q n) v).run P w = .ok () w' /\ IM q w' b (fun k => if k = n then some v else G k) /\ w.grownBy w' (some b) := by
 obtain ⟨es, clock, hb, hkey, hG, h1⟩ := h.found n
 have h2 := run_checkKey (w := w) hk (k := .int q n) (by simp [IsKey]) false 9999
 have hlt : b < w.heap.size := h.lt
 rcases h1 with ⟨hl, hf⟩ | ⟨j, u, e1, hl, hf, hj, hke⟩
 ·have h1 := run_findKey (w := w) hk hf
  refine ⟨setBlock w b (.map (es.push { key := .int q n, val := v, born := clock }) (clock + 1)), ?_, ⟨es.push { key := .int q n, val := v, born := clock }, clock + 1, by simp [setBlock, hlt], ?_, fun k => ?_⟩, World.mapTurned.grown ⟨es, clock, _, _, hb, rfl⟩⟩
  ·simp [Instr.mapUpdate, run_underlying ht, MapKept.run_getObj_map hb, h2, h1, MapKept.run_setObj_map _ hb, Result.andThen, setBlock]
  ·intro x hx
   simp at hx
   rcases hx with hx | rfl
   ·exact hkey x (by simpa using hx)
   ·simp [IsKey]
  ·rw [Array.toList_push, fstE_push q es.toList n v clock hkey (by rw [hG, hl]) k, hG]
 ·have h1 := run_findKey (w := w) hk hf
  refine ⟨setBlock w b (.map (es.modify j fun e => { e with key := .int q n, val := v }) clock), ?_, ⟨es.modify j fun e => { e with key := .int q n, val := v }, clock, by simp [setBlock, hlt], ?_, fun k => ?_⟩, World.mapTurned.grown ⟨es, clock, _, _, hb, rfl⟩⟩
  ·have hsb : Instr.sameBits 10000 (.int q n) (.int q n) = true := by simp [Instr.sameBits]
   simp [Instr.mapUpdate, run_underlying ht, MapKept.run_getObj_map hb, h2, h1, MapKept.run_setObj_map _ hb, Result.andThen, setBlock, hj, hke, Instr.keyThatStays, hsb]
  ·refine isKey_modify hkey j _ (fun e he => ?_)
   rw [hj] at he
   cases he
   exact hke.symm
  ·rw [Array.toList_modify, fstE_modify q n v es.toList 0 j u hkey (by simpa using hf) k, hG]
theorem wp_update_im {P : Program} {o : Oper} {a : Act} {K : Act -> World -> Prop} {Q : Exit -> Act -> World -> Prop}
  (m x v : Operand) (t : TypeId) (hop : o.op = Op.mapUpdate t m x v) (k e : TypeId) (ht : P.underlying t = some (.map k e)) (hk : P.underlying k = some (.int q)) (h : IM q w b G)
  (hm : a.eval m = .map (some b)) (n : Int) (val : Value) (hx : a.eval x = .int q n) (hv : a.eval v = val)
  (hK : ∀ w', IM q w' b (fun k => if k = n then some val else G k) -> w.grownBy w' (some b) -> K (a.put o.dst undef) w') : o.wp P a w K Q := by
 obtain ⟨w', hrun, h1, h2⟩ := run_set_im t k e ht hk h n val
 unfold Oper.wp
 simp [execOp, hop, hm, hx, hv, hrun, Result.andThen]
 exact hK _ h1 h2
section
variable {P : Program} {ops : Array Oper} {KQ : Act -> World -> Prop} {facts : List Fact} {taken : List Nat} {a : Act} {w : World}
theorem lookQ (i : Nat) {oi : Oper} (hi : ops[i]? = some oi) (hB : takeB ops (facts.map (·.1)) taken i = true) (hw : Region.wanted oi (yielded ops a.tmps) = true) {t : TypeId} {x y : Operand} {c : Bool} (hop : oi.op = .lookup t x y c) {u z : Value} (hx : a.eval x = u) (hy : a.eval y = z)
  (n : Nat) {k : Nat} {p : World -> Prop} (hf : facts[n]? = some (k, p)) (hk : waits .any ops k i = true) (v : Value) (hr : ∀ w', p w' -> (Instr.lookup t u z c).run P w' = .ok v w')
  (h : atR P ops KQ facts (i :: taken) (a.put oi.dst v) w) : atR P ops KQ facts taken a w := by
 refine readyR i hi hB v (.inl ⟨hw, fun w' hu => ?_⟩) h
 have h1 := hr w' (hu.get k p (List.mem_of_getElem? hf) hk)
 simp only [execOp, hop, hx, hy, Sem.run_bind, h1, Result.andThen_ok, Sem.run_pure]
end
end
section
theorem ses_Of1 (r : RowV) (w : World) : Calls Tryz.prog 82 #[.agg r.vals] w fun e w' => e = .returned (.int .i64 r.kind) /\ Below w.heap.size w w' := by
 unfold RowV.vals
 go_enter Tryz.func82, Tryz.ntmps82
 go_wp2
 go_ret
 exact ⟨rfl, (Below.refl _ w).alloc (Nat.le_refl _) _⟩
def ofKind (l : List RowV) (k : Int) : List RowV := l.filter fun r => decide (r.kind = k)
structure PM (w : World) (base m : Nat) (l : List RowV) (G : Int -> Option Value) : Prop where
 map : IM .i64 w m G
 rows : ∀ k, RowsAt w base ((G k).getD (.slice none 0 0)) (ofKind l k)
 no : ∀ k, ofKind l k = [] -> G k = none
 apart : ∀ k k' b, k ≠ k' -> ((G k).getD (.slice none 0 0)).ownBlock = some b -> ((G k').getD (.slice none 0 0)).ownBlock ≠ some b
theorem PM.below {w w' : World} {base m : Nat} {l : List RowV} {G : Int -> Option Value} (h : PM w base m l G) (hb : Below w.heap.size w w') : PM w' base m l G :=
 ⟨h.map.below hb, fun k => ownsRow_below (h.rows k) hb, h.no, h.apart⟩
theorem map_not_row {w : World} {b : Nat} {G : Int -> Option Value} {q : IntKind} (h : IM q w b G) {e : TypeId} {base size n : Nat} {v : Value} {xs : List Value} (hr : w.ownsRow base e size v n xs) : v.ownBlock ≠ some b := by
 obtain ⟨es, clock, hb, _⟩ := h
 obtain ⟨_, ⟨rfl, _⟩ | ⟨g, cap, cur, rfl, _, hg, _⟩⟩ := hr
 ·simp [Value.ownBlock]
 ·intro he
  simp only [Value.ownBlock, Option.some.injEq] at he
  subst he;rw [hb] at hg
  cases hg
theorem own_grownBy {w w' : World} {base size n : Nat} {e : TypeId} {v : Value} {xs : List Value} {o : Option Nat} (h : w.ownsRow base e size v n xs) (hg : w.grownBy w' o) (hne : ∀ b, v.ownBlock = some b -> o ≠ some b) : w'.ownsRow base e size v n xs := by
 obtain ⟨hl, hx | ⟨g, cap, cur, rfl, hb, hh, hx⟩⟩ := h
 ·exact ⟨hl, .inl hx⟩
 ·exact ⟨hl, .inr ⟨g, cap, cur, rfl, hb, (hg.block g (Array.getElem?_eq_some_iff.1 hh).1 (fun he => hne g rfl he.symm)).trans hh, hx⟩⟩
theorem ofKind_snoc (l : List RowV) (r : RowV) (k : Int) : ofKind (l ++ [r]) k = if r.kind = k then ofKind l k ++ [r] else ofKind l k := by
 unfold ofKind
 rw [List.filter_append]
 by_cases h : r.kind = k <;> simp [h]
theorem PM.put {w w1 w2 : World} {base m : Nat} {l : List RowV} {G : Int -> Option Value} {r : RowV} {v' : Value} (h : PM w base m l G)
  (hown : w1.ownsRow base 33 9 v' ((ofKind l r.kind).length + 1) ((ofKind l r.kind).flatMap RowV.cl ++ r.cl)) (g1 : w.grownBy w1 ((G r.kind).getD (.slice none 0 0)).ownBlock)
  (n1 : ∀ k, v'.ownBlock = some k -> ((G r.kind).getD (.slice none 0 0)).ownBlock = some k \/ w.heap.size <= k) (hm : m < w.heap.size)
  (him : IM .i64 w2 m (fun k => if k = r.kind then some v' else G k)) (hg2 : w1.grownBy w2 (some m)) : PM w2 base m (l ++ [r]) (fun k => if k = r.kind then some v' else G k) := by
 have hm1 : IM .i64 w1 m G := h.map.grown g1 (map_not_row h.map (h.rows r.kind))
 refine ⟨him, fun k => ?_, fun k hk => ?_, fun k k' b hkk hb hb' => ?_⟩
 ·rw [ofKind_snoc]
  by_cases hk : k = r.kind
  ·subst hk
   rw [if_pos rfl, if_pos rfl, Option.getD_some]
   have : w1.ownsRow base 33 9 v' (ofKind l r.kind ++ [r]).length ((ofKind l r.kind ++ [r]).flatMap RowV.cl) := by simpa using hown
   exact own_grownBy this hg2 (fun b hb he => map_not_row hm1 hown (by cases he; exact hb))
  ·rw [if_neg hk, if_neg (fun e => hk e.symm)]
   refine own_grownBy (own_grownBy (h.rows k) g1 (fun b hb he => h.apart k r.kind b hk hb he)) hg2 (fun b hb he => ?_)
   cases he
   exact map_not_row h.map (h.rows k) hb
 ·rw [ofKind_snoc] at hk
  by_cases hkr : r.kind = k
  ·rw [if_pos hkr] at hk; simp at hk
  ·rw [if_neg hkr] at hk
   try dsimp only
   show (if k = r.kind then _ else _) = _
   rw [if_neg (fun e => hkr e.symm)]
   exact h.no k hk
 ·by_cases h1 : k = r.kind
  ·rw [if_pos h1, Option.getD_some] at hb
   have h2 : ¬ k' = r.kind := fun e => hkk (h1.trans e.symm)
   rw [if_neg h2] at hb'
   rcases n1 b hb with h3 | h3
   ·exact h.apart r.kind k' b (fun e => h2 e.symm) h3 hb'
   ·have := ((h.rows k').lt b hb').2; omega
  ·rw [if_neg h1] at hb
   by_cases h2 : k' = r.kind
   ·rw [if_pos h2, Option.getD_some] at hb'
    rcases n1 b hb' with h3 | h3
    ·exact h.apart k r.kind b h1 hb h3
    ·have := ((h.rows k).lt b hb).2; omega
   ·rw [if_neg h2] at hb'
    exact h.apart k k' b hkk hb hb'
structure PSt (n b : Nat) (r : RowV) (l : List RowV) (G : Int -> Option Value) (w W : World) : Prop where
 below : Below n w W
 blk : Blk W b r.vals 33
 pm : PM W n n l G
 base : n < W.heap.size
 nb : n < b
 ap : ∀ k x, ((G k).getD (.slice none 0 0)).ownBlock = some x -> x < b
theorem PSt.step {n b : Nat} {r : RowV} {l : List RowV} {G : Int -> Option Value} {w W W' : World} (h : PSt n b r l G w W) (hb : Below W.heap.size W W') : PSt n b r l G w W' :=
 ⟨h.below.trans (hb.mono (Nat.le_of_lt h.base)), h.blk.below hb, h.pm.below hb, Nat.lt_of_lt_of_le h.base hb.size, h.nb, h.ap⟩
theorem ses_parted (base : Nat) (v : Value) (l : List RowV) (w : World) (hv : RowsAt w base v l) (hl : l.length <= 1000000) :
  Calls Tryz.prog 81 #[v, .func (.func 82) #[] #[]] w fun e w' => ∃ m G, e = .returned (.map (some m)) /\ PM w' w.heap.size m l G /\ w.heap.size <= m /\ Below w.heap.size w w' := by
 obtain ⟨a, cap, rfl⟩ := own_slice hv
 have C1 := hid ses_Of1;have HV := hid hv;clear hv;have hmm := @run_makeMap Tryz.prog
 go_enter Tryz.func81, Tryz.ntmps81
 go_wp2
 go_loopw [11] (fun i wr => ∃ (k : Nat) (G : Int -> Option Value), i = .int .i64 k /\ k <= l.length /\ Hid (PM wr w.heap.size w.heap.size (l.take k) G) /\ Hid (Below w.heap.size w wr)) (fun i _ => l.length - (intOf i).toNat)
 case atStart => exact ⟨0, _, rfl, Nat.zero_le _, hid ⟨IM.new w, fun k => World.ownsRow_nil _ _ _ _, fun _ _ => rfl, fun _ _ _ _ h => by simp [Value.ownBlock] at h⟩, hid ((Below.refl _ w).alloc (Nat.le_refl _) _)⟩
 case round =>
  obtain ⟨k, G, rfl, hk, hpm, hbr⟩ := hrel
  rcases Nat.lt_or_ge k l.length with hlt | hge
  ·have dk : decide ((k : Int) < (l.length : Int)) = true := decide_eq_true (by omega)
   obtain ⟨r, hr⟩ : ∃ r, l[k]? = some r := ⟨_, List.getElem?_eq_getElem hlt⟩
   obtain ⟨g, rfl, hcap, hrow⟩ := own_range RowV.cl RowV.cllen rfl (ownsRow_below HV.out hbr.out) hr
   have hrow := hid hrow;have hts := hid (show l.take (k + 1) = l.take k ++ [r] by rw [List.take_add_one, hr]; rfl)
   have hr := hid hr
   go_wp2_with (first
    | (refine wpList_load_mid rfl 33 _ rfl g (k * 9) rfl r.cl _ hrow.out Tryz.underlying33 rfl (by kernel_rfl) ?_)
    | (refine wS 33 9 rfl wr.heap.size _ r.cl.toArray rfl rfl (Blk.new wr _ _) rfl rfl r.one ?_; intro w2 hb2 hw2))
   have hB2 := hid (((Below.refl _ wr).alloc (Nat.le_refl _) (.cells #[.int .i64 0, .string ⟨#[]⟩, .int .i64 0, .int .i64 0, .string ⟨#[]⟩, .string ⟨#[]⟩, .int .i64 0, .bool false, .int .i64 0] 33)).trans (hw2.below (by simp) (by simp)))
   have hbr2 := hid (hbr.out.trans (hB2.out.mono hbr.out.size))
   have hpm2 := hid (hpm.out.below hB2.out)
   have hb2 := hid hb2;clear hw2 hB2;have hst := hid (show PSt w.heap.size wr.heap.size r (l.take k) G w w2.drew from ⟨hbr2.out.drew, hb2.out.drew, hpm2.out.below (Below.refl _ _).drew, by have := hbr.out.size; have := hb2.out.lt; simp; omega, hpm.out.map.lt, fun k x hx => ((hpm.out.rows k).lt x hx).2⟩)
   refine regionQ [(1000, fun w' => Blk w' wr.heap.size r.vals 33), (12, fun w' => IM .i64 w' w.heap.size G)] (by kernel_rfl) ⟨hb2.out.drew, hst.out.pm.map, trivial⟩ fun KQ hKQ => ?_
   try simp only [PT]
   refine tQ [0, 1, 4, 5] ?_;refine lR 2 0 rfl rfl rfl rfl (fun w' hf => run_load_blk hf 33 Tryz.underlying33 rfl (by kernel_rfl)) ?_
   simp only [PT];refine lR 6 0 rfl rfl rfl rfl (fun w' hf => run_load_blk hf 33 Tryz.underlying33 rfl (by kernel_rfl)) ?_
   simp only [PT];refine lR 9 0 rfl rfl rfl rfl (fun w' hf => run_load_blk hf 33 Tryz.underlying33 rfl (by kernel_rfl)) ?_
   simp only [PT];clear hbr hbr2 hpm hpm2 hb2;refine stepQ2 3 10 rfl rfl (by kernel_rfl) (by decide) (by kernel_rfl) (by kernel_rfl) (fun K hK => ?_) (fun K hK => ?_)
   ·skip
    try simp only [GO]
    go_simp;refine (C1.out r _).mono ?_
    rintro e w3 ⟨rfl, hbc⟩
    replace hst := hid (hst.out.step hbc)
    clear hbc;refine hK _ _ ⟨⟨fun _ => hst.out.blk, fun _ => hst.out.pm.map, trivial⟩, ?_⟩
    clear hK K;try simp only [PT]
    refine stepQ2 7 10 rfl rfl (by kernel_rfl) (by decide) (by kernel_rfl) (by kernel_rfl) (fun K hK => ?_) (fun K hK => ?_)
    ·skip
     try simp only [GO]
     go_simp;refine (C1.out r _).mono ?_
     rintro e w4 ⟨rfl, hbc⟩
     replace hst := hid (hst.out.step hbc)
     clear hbc;refine hK _ _ ⟨⟨fun _ => hst.out.blk, fun _ => hst.out.pm.map, trivial⟩, ?_⟩
     clear hK K;try simp only [PT]
     refine lookQ 8 rfl (by kernel_rfl) (by kernel_rfl) rfl rfl rfl 1 rfl (by kernel_rfl) ((G r.kind).getD (.slice none 0 0)) (fun w' hf => run_lookup_im 156 30 34 Tryz.underlying156 Tryz.underlying30 hf (.slice none 0 0) (by kernel_rfl) r.kind false) ?_
     try simp only [PT]
     refine sQ 10 fun K hK => ?_;simp only [GO];try simp only [GO]
     refine wp_slice_one _ rfl eRow (by decide) (by decide) (.agg r.cl.toArray) rfl rfl ?_
     have hgb := hid (Blk.new (w4) r.cl.toArray 33)
     replace hst := hid (hst.out.step ((Below.refl _ (w4)).alloc (Nat.le_refl _) (.cells r.cl.toArray 33)))
     refine hK _ _ ⟨⟨fun _ => hst.out.blk, fun _ => hst.out.pm.map, trivial⟩, ?_⟩
     clear hK K;try simp only [PT]
     refine sQ 11 fun K hK => ?_;simp only [GO];refine wp_append_grp _ _ rfl eRow (by decide) w.heap.size ((G r.kind).getD (.slice none 0 0)) _ _ rfl (hst.out.pm.rows r.kind) w4.heap.size r.cl 33 rfl hgb.out rfl r.one (by have := List.length_filter_le (fun x : RowV => decide (x.kind = r.kind)) (l.take k); unfold ofKind; simp at this ⊢; omega) (by have := List.length_filter_le (fun x : RowV => decide (x.kind = r.kind)) (l.take k); unfold ofKind; simp at this ⊢; omega) (Nat.le_of_lt hst.out.base) fun v' w5 r5 g5 n5 => ?_
     have hg5 := hid g5;have him5 := hid (hst.out.pm.map.grown g5 (map_not_row hst.out.pm.map (hst.out.pm.rows r.kind)))
     have hbb5 := hid (Blk.keep hst.out.blk (g5.block _ hst.out.blk.lt (fun he => by have := hst.out.ap r.kind _ he.symm; omega)))
     refine hK _ _ ⟨⟨fun _ => hbb5.out, fun _ => him5.out, trivial⟩, ?_⟩
     clear hK K;try simp only [PT]
     refine sQ 12 fun K hK => ?_;simp only [GO];refine wp_update_im _ _ _ 156 rfl 30 34 Tryz.underlying156 Tryz.underlying30 him5.out rfl r.kind v' rfl rfl fun w6 him6 hg6 => ?_
     have hpm6 := hid (hst.out.pm.put (r := r) r5 hg5.out n5 hst.out.base him6 hg6)
     have hbr5 := hid (hst.out.below.grown hg5.out (Nat.le_of_lt hst.out.base) (fun x hx => ((hst.out.pm.rows r.kind).lt x hx).1))
     have hbr6 := hid (hbr5.out.grown hg6 (Nat.le_trans (Nat.le_of_lt hst.out.base) hg5.out.size) (fun x hx => by cases hx; exact Nat.le_refl _))
     have hbb6 := hid (Blk.keep hbb5.out (hg6.block _ hbb5.out.lt (fun he => by have := hst.out.nb; simp only [Option.some.injEq] at he; omega)))
     refine hK _ _ ⟨⟨fun _ => hbb6.out, fun h => absurd (show true = false from h) (by decide), trivial⟩, ?_⟩
     clear hK K;try simp only [PT]
     refine dQ (hKQ.out _ _ ?_);clear hKQ KQ;go_wp2
     go_roundw
     case rel => exact ⟨k + 1, _, by go_num, by omega, by rw [hts.out]; exact hpm6, hbr6⟩
     case measure => simp [intOf]; omega
    ·skip
     try simp only [GO]
     refine wp_slice_one _ rfl eRow (by decide) (by decide) (.agg r.cl.toArray) rfl rfl ?_
     have hgb := hid (Blk.new (w3) r.cl.toArray 33)
     replace hst := hid (hst.out.step ((Below.refl _ (w3)).alloc (Nat.le_refl _) (.cells r.cl.toArray 33)))
     refine hK _ _ ⟨⟨fun _ => hst.out.blk, fun _ => hst.out.pm.map, trivial⟩, ?_⟩
     clear hK K;try simp only [PT]
     refine sQ 7 fun K hK => ?_;simp only [GO];try simp only [GO]
     go_simp;refine (C1.out r _).mono ?_
     rintro e w4 ⟨rfl, hbc⟩
     replace hst := hid (hst.out.step hbc)
     replace hgb := hid (hgb.out.below hbc)
     clear hbc;refine hK _ _ ⟨⟨fun _ => hst.out.blk, fun _ => hst.out.pm.map, trivial⟩, ?_⟩
     clear hK K;try simp only [PT]
     refine lookQ 8 rfl (by kernel_rfl) (by kernel_rfl) rfl rfl rfl 1 rfl (by kernel_rfl) ((G r.kind).getD (.slice none 0 0)) (fun w' hf => run_lookup_im 156 30 34 Tryz.underlying156 Tryz.underlying30 hf (.slice none 0 0) (by kernel_rfl) r.kind false) ?_
     try simp only [PT]
     refine sQ 11 fun K hK => ?_;simp only [GO];refine wp_append_grp _ _ rfl eRow (by decide) w.heap.size ((G r.kind).getD (.slice none 0 0)) _ _ rfl (hst.out.pm.rows r.kind) w3.heap.size r.cl 33 rfl hgb.out rfl r.one (by have := List.length_filter_le (fun x : RowV => decide (x.kind = r.kind)) (l.take k); unfold ofKind; simp at this ⊢; omega) (by have := List.length_filter_le (fun x : RowV => decide (x.kind = r.kind)) (l.take k); unfold ofKind; simp at this ⊢; omega) (Nat.le_of_lt hst.out.base) fun v' w5 r5 g5 n5 => ?_
     have hg5 := hid g5;have him5 := hid (hst.out.pm.map.grown g5 (map_not_row hst.out.pm.map (hst.out.pm.rows r.kind)))
     have hbb5 := hid (Blk.keep hst.out.blk (g5.block _ hst.out.blk.lt (fun he => by have := hst.out.ap r.kind _ he.symm; omega)))
     refine hK _ _ ⟨⟨fun _ => hbb5.out, fun _ => him5.out, trivial⟩, ?_⟩
     clear hK K;try simp only [PT]
     refine sQ 12 fun K hK => ?_;simp only [GO];refine wp_update_im _ _ _ 156 rfl 30 34 Tryz.underlying156 Tryz.underlying30 him5.out rfl r.kind v' rfl rfl fun w6 him6 hg6 => ?_
     have hpm6 := hid (hst.out.pm.put (r := r) r5 hg5.out n5 hst.out.base him6 hg6)
     have hbr5 := hid (hst.out.below.grown hg5.out (Nat.le_of_lt hst.out.base) (fun x hx => ((hst.out.pm.rows r.kind).lt x hx).1))
     have hbr6 := hid (hbr5.out.grown hg6 (Nat.le_trans (Nat.le_of_lt hst.out.base) hg5.out.size) (fun x hx => by cases hx; exact Nat.le_refl _))
     have hbb6 := hid (Blk.keep hbb5.out (hg6.block _ hbb5.out.lt (fun he => by have := hst.out.nb; simp only [Option.some.injEq] at he; omega)))
     refine hK _ _ ⟨⟨fun _ => hbb6.out, fun h => absurd (show true = false from h) (by decide), trivial⟩, ?_⟩
     clear hK K;try simp only [PT]
     refine dQ (hKQ.out _ _ ?_);clear hKQ KQ;go_wp2
     go_roundw
     case rel => exact ⟨k + 1, _, by go_num, by omega, by rw [hts.out]; exact hpm6, hbr6⟩
     case measure => simp [intOf]; omega
   ·skip
    try simp only [GO]
    refine wp_slice_one _ rfl eRow (by decide) (by decide) (.agg r.cl.toArray) rfl rfl ?_
    have hgb := hid (Blk.new (w2.drew) r.cl.toArray 33)
    replace hst := hid (hst.out.step ((Below.refl _ (w2.drew)).alloc (Nat.le_refl _) (.cells r.cl.toArray 33)))
    refine hK _ _ ⟨⟨fun _ => hst.out.blk, fun _ => hst.out.pm.map, trivial⟩, ?_⟩
    clear hK K;try simp only [PT]
    refine sQ 3 fun K hK => ?_;simp only [GO];try simp only [GO]
    go_simp;refine (C1.out r _).mono ?_
    rintro e w3 ⟨rfl, hbc⟩
    replace hst := hid (hst.out.step hbc)
    replace hgb := hid (hgb.out.below hbc)
    clear hbc;refine hK _ _ ⟨⟨fun _ => hst.out.blk, fun _ => hst.out.pm.map, trivial⟩, ?_⟩
    clear hK K;try simp only [PT]
    refine sQ 7 fun K hK => ?_;simp only [GO];try simp only [GO]
    go_simp;refine (C1.out r _).mono ?_
    rintro e w4 ⟨rfl, hbc⟩
    replace hst := hid (hst.out.step hbc)
    replace hgb := hid (hgb.out.below hbc)
    clear hbc;refine hK _ _ ⟨⟨fun _ => hst.out.blk, fun _ => hst.out.pm.map, trivial⟩, ?_⟩
    clear hK K;try simp only [PT]
    refine lookQ 8 rfl (by kernel_rfl) (by kernel_rfl) rfl rfl rfl 1 rfl (by kernel_rfl) ((G r.kind).getD (.slice none 0 0)) (fun w' hf => run_lookup_im 156 30 34 Tryz.underlying156 Tryz.underlying30 hf (.slice none 0 0) (by kernel_rfl) r.kind false) ?_
    try simp only [PT]
    refine sQ 11 fun K hK => ?_;simp only [GO];refine wp_append_grp _ _ rfl eRow (by decide) w.heap.size ((G r.kind).getD (.slice none 0 0)) _ _ rfl (hst.out.pm.rows r.kind) w2.heap.size r.cl 33 rfl hgb.out rfl r.one (by have := List.length_filter_le (fun x : RowV => decide (x.kind = r.kind)) (l.take k); unfold ofKind; simp at this ⊢; omega) (by have := List.length_filter_le (fun x : RowV => decide (x.kind = r.kind)) (l.take k); unfold ofKind; simp at this ⊢; omega) (Nat.le_of_lt hst.out.base) fun v' w5 r5 g5 n5 => ?_
    have hg5 := hid g5;have him5 := hid (hst.out.pm.map.grown g5 (map_not_row hst.out.pm.map (hst.out.pm.rows r.kind)))
    have hbb5 := hid (Blk.keep hst.out.blk (g5.block _ hst.out.blk.lt (fun he => by have := hst.out.ap r.kind _ he.symm; omega)))
    refine hK _ _ ⟨⟨fun _ => hbb5.out, fun _ => him5.out, trivial⟩, ?_⟩
    clear hK K;try simp only [PT]
    refine sQ 12 fun K hK => ?_;simp only [GO];refine wp_update_im _ _ _ 156 rfl 30 34 Tryz.underlying156 Tryz.underlying30 him5.out rfl r.kind v' rfl rfl fun w6 him6 hg6 => ?_
    have hpm6 := hid (hst.out.pm.put (r := r) r5 hg5.out n5 hst.out.base him6 hg6)
    have hbr5 := hid (hst.out.below.grown hg5.out (Nat.le_of_lt hst.out.base) (fun x hx => ((hst.out.pm.rows r.kind).lt x hx).1))
    have hbr6 := hid (hbr5.out.grown hg6 (Nat.le_trans (Nat.le_of_lt hst.out.base) hg5.out.size) (fun x hx => by cases hx; exact Nat.le_refl _))
    have hbb6 := hid (Blk.keep hbb5.out (hg6.block _ hbb5.out.lt (fun he => by have := hst.out.nb; simp only [Option.some.injEq] at he; omega)))
    refine hK _ _ ⟨⟨fun _ => hbb6.out, fun h => absurd (show true = false from h) (by decide), trivial⟩, ?_⟩
    clear hK K;try simp only [PT]
    refine dQ (hKQ.out _ _ ?_);clear hKQ KQ;go_wp2
    go_roundw
    case rel => exact ⟨k + 1, _, by go_num, by omega, by rw [hts.out]; exact hpm6, hbr6⟩
    case measure => simp [intOf]; omega
  ·obtain rfl : k = l.length := by omega
   have dk : decide ((l.length : Int) < (l.length : Int)) = false := by simp
   rw [List.take_length] at hpm
   go_wp2
   go_ret
   exact ⟨_, _, rfl, hpm.out, Nat.le_refl _, hbr.out⟩
end
end Go.Proofs.YtoinabapaeebfaaGreatDoor
