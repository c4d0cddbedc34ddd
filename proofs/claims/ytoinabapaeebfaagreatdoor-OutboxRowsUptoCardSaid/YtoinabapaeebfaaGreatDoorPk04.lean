/- Append within a round of a range over a function. No program in sight. · Append of a whole row, at one operation; reads that are known till an operation far behind. No program in sight. · Maps with integer keys whose entries are known: an entry is set, an entry is looked up. · Contracts of package records: rows as values; within, client, the tests of a session's row. · Laid by the kit's shelf tools (lay-shelf, lay-plain) at this seat's dump. · Contracts of package records (part 2): may a row be put; may a session's row be. · Contracts of package records (part 3): kinds' closures. · Contracts of package records (part 4): the session's closures, and Check. · Regions: two things that act may come up now. -/
import Derived.Test.YtoinabapaeebfaaGreatDoorPk03
import Derived.Laws.AppendOwnNone
import Derived.Maps.OwnOps
import Derived.Shelf.Strings.Runes
import Derived.Shelf.Strings.IndexAnyAll
import Derived.Test.YtoinabapaeebfaaGreatDoorProg
import Derived.Handy
set_option linter.unusedSimpArgs false
set_option linter.unusedVariables false
namespace Go.Proofs.YtoinabapaeebfaaGreatDoor
open Go.RowKit Go.Shelf

theorem appendIn_one {F : Fence} {k : Nat} {P : Program} {w : World} {ops : Array Oper} {rest : List Oper} {o : Oper} {a : Act} {Q : Exit → Act → World → Prop} {t e : TypeId} {z : Value} {bytes : Nat} (hgd : o.guard = none) (s x : Operand)
    (ho : o.op = .call { callee := .builtin .append, args := #[s, x], argTypes := #[t, t] }) (E : ElemT P t e z 1 bytes)
    (base : Nat) (v : Value) (n : Nat) (xs : List Value) (hs : a.eval s = v) (hown : w.ownsRow base e 1 v n xs) (u : Value) (hu : u.oneCell' = true) {T : TypeId}
    (hx : a.eval x = .slice (some ⟨w.heap.size, 0, none⟩) 1 1) (h63 : n < 140737488355328) (hbytes : (n + 1) * bytes ≤ 140737488355328) (hbase : base ≤ w.heap.size)
    (h : ∀ v' w', w'.ownsRow base e 1 v' (n + 1) (xs ++ [u]) → w.grownBy w' v.ownBlock → wpListIn F k P ops Q rest (a.put o.dst v') w') : wpListIn F k P ops Q (o :: rest) a (w.alloc (.cells #[u] T)) := by
  obtain ⟨i, hi, hz0, hz1, hz2⟩ := info_parts E.info
  refine wpListIn_append_own _ hgd s x t ho base e i z 1 bytes E.ht hi hz0 hz1 hz2 E.hzs (by decide) v n xs hs (hown.alloc _) ⟨w.heap.size, 0, none⟩ 1 1 [u] hx rfl ?_ ?_ ?_ hbytes ?_ ?_
  · intro j u' hj
    match j, hj with
    | 0, hj => simp at hj; subst hj; exact cell_one_new _ _ _ 0 _ (by simp)
  · intro u' h'; simp at h'; subst h'; exact hu
  · unfold maxLen; omega
  · simp; omega
  · intro v' w' h1 h2 _
    exact h v' w' h1 (grownBy_trans (World.grownBy_alloc w _ none) h2)
end Go.Proofs.YtoinabapaeebfaaGreatDoor
namespace Go.Proofs.YtoinabapaeebfaaGreatDoor
open Go.RowKit Go.Shelf

/-- 'append(own, src...)' from whatever source: the operation alone. -/
theorem wp_append_any {P : Program} {w : World} {o : Oper} {a : Act} {K : Act → World → Prop} {Q : Exit → Act → World → Prop} {t e : TypeId} {z : Value} {bytes : Nat} (s x : Operand)
    (ho : o.op = .call { callee := .builtin .append, args := #[s, x], argTypes := #[t, t] }) (E : ElemT P t e z 1 bytes)
    (base : Nat) (v : Value) (n : Nat) (xs : List Value) (hs : a.eval s = v) (hown : w.ownsRow base e 1 v n xs) (ad : Option Addr) (m c : Nat) (ys : List Value) (hu : ∀ u ∈ ys, u.oneCell' = true)
    (hx : a.eval x = .slice ad m c) (hrow : RowAt w ad m c ys) (h63 : n + m ≤ 140737488355328) (hbytes : (n + m) * bytes ≤ 140737488355328) (hbase : base ≤ w.heap.size)
    (h : ∀ v' w', w'.ownsRow base e 1 v' (n + m) (xs ++ ys) → w.grownBy w' v.ownBlock → K (a.put o.dst v') w') : o.wp P a w K Q := by
  obtain ⟨i, hi, hz0, hz1, hz2⟩ := info_parts E.info
  cases ad with
  | some ad =>
    refine wp_append_own _ s x t ho base e i z 1 bytes E.ht hi hz0 hz1 hz2 E.hzs (by decide) v n xs hs hown ad m c ys hx (by rw [hrow.len]; omega) ?_ hu ?_ hbytes hbase (fun v' w' h1 h2 _ => h v' w' h1 h2)
    · intro j u hj
      have hjm : j < m := by have := (List.getElem?_eq_some_iff.1 hj).1; have := hrow.len; omega
      obtain ⟨b, off, ha, hc⟩ := hrow.cells j hjm
      cases ha
      rw [hj] at hc
      by_cases h0 : j = 0
      · subst h0; simpa [Addr.add] using hc
      · simpa [Addr.add, h0] using hc
    · unfold maxLen; omega
  | none =>
    have hc := hrow.hnil rfl
    have hm : m = 0 := by have := hrow.le; omega
    have hy : ys = [] := List.eq_nil_of_length_eq_zero (by rw [hrow.len, hm])
    subst hc hm hy
    have hrun := run_append_owned_none (P := P) (w := w) base t o.type e i 1 E.ht hi v n xs hown
    unfold Oper.wp
    simp [execOp, ho, resolve, invoke, builtin, hs, hx, hrun, Result.andThen]
    exact h v w (by simpa using hown) (World.grownBy.refl w _)

section
variable {P : Program} {ops : Array Oper}
/-- Operation k waits for i, by others too. -/
def waitsT (md : Region.Mode) (ops : Array Oper) (i : Nat) : Nat → Nat → Bool
  | 0, _ => false
  | f + 1, k => match ops[k]? with
    | none => true
    | some o => o.after.any fun e => Region.binds md e && (e.on == i || ((ops[e.on]?).isSome && waitsT md ops i f e.on))
theorem listed_get {md : Region.Mode} {listed : Array Bool} (hc : ClosedL md ops listed) (k : Nat) (h : ops[k]? = none) : listed.getD k false = false := by
  have h1 := Array.getElem?_eq_none_iff.1 h
  have h2 : listed[k]? = none := Array.getElem?_eq_none_iff.2 (by rw [hc.1]; exact h1)
  rw [Array.getD_eq_getD_getElem?, h2]
  rfl
theorem waitsT_spec {md : Region.Mode} {listed : Array Bool} {i : Nat} (hc : ClosedL md ops listed) (hn : listed.getD i true = false) : ∀ (f k : Nat), waitsT md ops i f k = true → listed.getD k false = false
  | 0, _, h => by cases h
  | f + 1, k, h => by
    unfold waitsT at h
    cases hk : ops[k]? with
    | none => exact listed_get hc k hk
    | some o =>
      rw [hk] at h
      obtain ⟨e, he, hb⟩ := Array.any_eq_true'.1 h
      simp only [Bool.and_eq_true, Bool.or_eq_true, beq_iff_eq] at hb
      cases hl : listed.getD k false with
      | false => rfl
      | true =>
        exfalso
        have h1 := hc.2 k o hk hl e he hb.1
        rcases hb.2 with h2 | ⟨-, h2⟩
        · rw [h2] at h1
          rcases Nat.lt_or_ge i listed.size with h' | h'
          · simp [h'] at hn h1; rw [hn] at h1; cases h1
          · simp [Array.getElem?_eq_none h'] at h1
        · have h3 := waitsT_spec hc hn f e.on h2
          rw [h1] at h3
          cases h3
theorem upR.getT {md : Region.Mode} {facts : List Fact} {i : Nat} {w : World} (h : upR md ops facts i w) (k : Nat) (p : World → Prop) (hm : (k, p) ∈ facts) (hw : waitsT md ops i (ops.size + 1) k = true) : p w := by
  obtain ⟨listed, h1, h2, h3⟩ := h
  exact h3 _ hm (waitsT_spec h1 h2 _ _ hw)
variable {KQ : Act → World → Prop} {facts : List Fact} {taken : List Nat} {a : Act} {w : World}
theorem loadT (i : Nat) {oi : Oper} (hi : ops[i]? = some oi) (hB : takeB ops (facts.map (·.1)) taken i = true) (hw : Region.wanted oi (yielded ops a.tmps) = true) {t : TypeId} {x : Operand} (hop : oi.op = .load t x) {u : Value} (hx : a.eval x = u)
    (n : Nat) {k : Nat} {p : World → Prop} (hf : facts[n]? = some (k, p)) (hk : waitsT .any ops i (ops.size + 1) k = true) (v : Value) (hr : ∀ w', p w' → (Instr.loadAt t u).run P w' = .ok v w')
    (h : atR P ops KQ facts (i :: taken) (a.put oi.dst v) w) : atR P ops KQ facts taken a w := by
  refine readyR i hi hB v (.inl ⟨hw, fun w' hu => ?_⟩) h
  have h1 := hr w' (hu.getT k p (List.mem_of_getElem? hf) hk)
  simp only [execOp, hop, hx, Sem.run_bind, h1, Result.andThen_ok, Sem.run_pure]
theorem convT (i : Nat) {oi : Oper} (hi : ops[i]? = some oi) (hB : takeB ops (facts.map (·.1)) taken i = true) (hw : Region.wanted oi (yielded ops a.tmps) = true) {s t : TypeId} {x : Operand} (hop : oi.op = .convert s t x) {u : Value} (hx : a.eval x = u)
    (n : Nat) {k : Nat} {p : World → Prop} (hf : facts[n]? = some (k, p)) (hk : waitsT .any ops i (ops.size + 1) k = true) (v : Value) (hr : ∀ w', p w' → (convert s t u).run P w' = .ok v w')
    (h : atR P ops KQ facts (i :: taken) (a.put oi.dst v) w) : atR P ops KQ facts taken a w := by
  refine readyR i hi hB v (.inl ⟨hw, fun w' hu => ?_⟩) h
  have h1 := hr w' (hu.getT k p (List.mem_of_getElem? hf) hk)
  simp only [execOp, hop, hx, Sem.run_bind, h1, Result.andThen_ok, Sem.run_pure]
end
end Go.Proofs.YtoinabapaeebfaaGreatDoor
namespace Go.Proofs.YtoinabapaeebfaaGreatDoor
open Go.RowKit Go.Shelf Go.MapKept Go.ChangeMaps

theorem findNow_none (q : IntKind) (n : Int) : ∀ (es : List MapEntry) (i : Nat), (∀ x : MapEntry, x ∈ es → ∃ a, x.key = .int q a ∧ a ≠ n) → Instr.findNow (.int q) (.int q n) es i = some none := by
  intro es
  induction es with
  | nil => intro i _; rfl
  | cons e es ih =>
    intro i h
    obtain ⟨a, ha, hn⟩ := h e (by simp)
    have hb : (n == a) = false := by simp; omega
    simp [Instr.findNow, ha, Instr.sameNow, hb]
    exact ih _ (fun x hx => h x (by simp [hx]))

/-- The entries behind an entry. -/
def putE (es : Array MapEntry) (key val : Value) (clock : Nat) : Array MapEntry := es.push { key, val, born := clock }

theorem run_mapUpdate_new {P : Program} (t k e : TypeId) (q : IntKind) (ht : P.underlying t = some (.map k e)) (hk : P.underlying k = some (.int q)) (w : World) (b : Nat) (es : Array MapEntry) (clock : Nat)
    (hb : w.heap[b]? = some (.map es clock)) (n : Int) (hn : ∀ x : MapEntry, x ∈ es.toList → ∃ a, x.key = .int q a ∧ a ≠ n) (v : Value) :
    (Instr.mapUpdate t (.map (some b)) (.int q n) v).run P w = .ok () (setBlock w b (.map (putE es (.int q n) v clock) (clock + 1))) := by
  have h1 := run_findKey (w := w) hk (findNow_none q n es.toList 0 hn)
  have h2 := run_checkKey (w := w) hk (k := .int q n) (by simp [IsKey]) false 9999
  simp [Instr.mapUpdate, run_underlying ht, MapKept.run_getObj_map hb, h2, h1, MapKept.run_setObj_map _ hb, Result.andThen, setBlock, putE]

/-- An entry is set whose key is new. -/
theorem wpList_insert_new {P : Program} (w : World) {ops : Array Oper} {rest : List Oper} {o : Oper} {a : Act} {Q : Exit → Act → World → Prop}
    (hg : o.guard = none) (m x v : Operand) (t : TypeId) (hop : o.op = Op.insert t m x v)
    (k e : TypeId) (q : IntKind) (ht : P.underlying t = some (.map k e)) (hk : P.underlying k = some (.int q)) (b : Nat) (es : Array MapEntry) (clock : Nat)
    (hm : a.eval m = .map (some b)) (hb : w.heap[b]? = some (.map es clock)) (n : Int) (val : Value) (hx : a.eval x = .int q n) (hv : a.eval v = val)
    (hn : ∀ x : MapEntry, x ∈ es.toList → ∃ a, x.key = .int q a ∧ a ≠ n)
    (hK : ∀ w', w'.heap[b]? = some (.map (putE es (.int q n) val clock) (clock + 1)) → w.grownBy w' (some b) → wpList P ops Q rest (a.put o.dst undef) w') :
    wpList P ops Q (o :: rest) a w := by
  refine wpList_plain hg fun K' hK' => ?_
  have hrun := run_mapUpdate_new t k e q ht hk w b es clock hb n hn val
  unfold Oper.wp
  simp [execOp, hop, hm, hx, hv, hrun, Result.andThen]
  refine hK' _ _ (hK _ ?_ ?_)
  · have : b < w.heap.size := by rcases Nat.lt_or_ge b w.heap.size with h | h; exact h; rw [Array.getElem?_eq_none h] at hb; cases hb
    simp [setBlock, this]
  · exact World.mapTurned.grown ⟨es, clock, _, _, hb, rfl⟩

/-- An entry that is there is found. -/
theorem run_lookup_at {P : Program} (t k e : TypeId) (q : IntKind) (ht : P.underlying t = some (.map k e)) (hk : P.underlying k = some (.int q)) (w : World) (b : Nat) (es : Array MapEntry) (clock : Nat)
    (hb : w.heap[b]? = some (.map es clock)) (n : Int) (v : Value) (j : Nat) (hn : Instr.findNow (.int q) (.int q n) es.toList 0 = some (some (j, v))) (c : Bool) :
    (Instr.lookup t (.map (some b)) (.int q n) c).run P w = .ok (if c then .tuple #[v, .bool true] else v) w := by
  have h1 := run_findKey (w := w) hk hn
  have h2 := fun z => run_checkKey (w := w) hk (k := .int q n) (by simp [IsKey]) z 9999
  simp [Instr.lookup, run_underlying ht, MapKept.run_getObj_map hb, h2, h1, Result.andThen]

/-- One that is not there is not. -/
theorem run_lookup_not {P : Program} (t k e : TypeId) (q : IntKind) (ht : P.underlying t = some (.map k e)) (hk : P.underlying k = some (.int q)) (w : World) (b : Nat) (es : Array MapEntry) (clock : Nat) (z : Value)
    (hz : (zeroValue e).run P w = .ok z w)
    (hb : w.heap[b]? = some (.map es clock)) (n : Int) (hn : ∀ x : MapEntry, x ∈ es.toList → ∃ a, x.key = .int q a ∧ a ≠ n) (c : Bool) :
    (Instr.lookup t (.map (some b)) (.int q n) c).run P w = .ok (if c then .tuple #[z, .bool false] else z) w := by
  have h1 := run_findKey (w := w) hk (findNow_none q n es.toList 0 hn)
  have h2 := fun z => run_checkKey (w := w) hk (k := .int q n) (by simp [IsKey]) z 9999
  simp [Instr.lookup, run_underlying ht, MapKept.run_getObj_map hb, h2, h1, hz, Result.andThen]
end Go.Proofs.YtoinabapaeebfaaGreatDoor
namespace Go.Proofs.YtoinabapaeebfaaGreatDoor
open Go.RowKit Go.Shelf

/-- A row. -/
structure RowV where
  kind : Int
  client : List UInt8
  seq : Int
  id : Int
  topic : List UInt8
  body : List UInt8
  qos : Int
  retain : Bool
  stage : Int
def RowV.vals (r : RowV) : Array Value := #[.int .i64 r.kind, .string ⟨r.client.toArray⟩, .int .i64 r.seq, .int .i64 r.id, .string ⟨r.topic.toArray⟩, .string ⟨r.body.toArray⟩, .int .i64 r.qos, .bool r.retain, .int .i64 r.stage]

set_option maxRecDepth 100000 in
set_option maxHeartbeats 400000 in
theorem rec_within (n a b : Int) (w : World) :
    Calls Tryz.prog 151 #[.int .i64 n, .int .i64 a, .int .i64 b] w fun e w' => e = .returned (.bool (decide (a ≤ n) && decide (n ≤ b))) ∧ w = w' := by
  by_cases h : a ≤ n
  · go_enter Tryz.func151, Tryz.ntmps151
    go_wp2
    go_ret
    simp [h]
  · have d : decide (a ≤ n) = false := decide_eq_false h
    go_enter Tryz.func151, Tryz.ntmps151
    go_wp2
    go_ret
    simp [d]

/-- May a client be? -/
def clientR (s : List UInt8) : Bool := !s.isEmpty && decide (s.length ≤ 23) && decide (wrongU s = -1)
set_option maxRecDepth 100000 in
set_option maxHeartbeats 400000 in
theorem rec_client (s : List UInt8) (w : World) (hs : s.length ≤ 9223372036854775807) :
    Calls Tryz.prog 150 #[.string ⟨s.toArray⟩] w fun e w' => e = .returned (.bool (clientR s)) ∧ Below w.heap.size w w' := by
  have hsz : ByteArray.size ⟨s.toArray⟩ = s.length := by simp [ByteArray.size]
  have fin : ∀ b : Bool, clientR s = b → Ending.returned (.bool b) = .returned (.bool (clientR s)) := fun b h => by rw [h]
  have HF := hid fin
  clear fin
  by_cases h0 : s = []
  · subst h0
    go_enter Tryz.func150, Tryz.ntmps150
    go_wp2
    go_ret
    exact ⟨HF.out _ rfl, Below.refl _ _⟩
  have e0 : ((⟨s.toArray⟩ : ByteArray).toList == (⟨#[]⟩ : ByteArray).toList) = false := by
    rw [ByteArray.toList_eq, ByteArray.toList_eq]
    simpa using h0
  have e1 : s.isEmpty = false := by cases s <;> simp at h0 ⊢
  have HS0 := hid h0
  clear h0
  by_cases h1 : s.length ≤ 23
  · have CC := hid (utf_Check s w (by omega))
    by_cases hw : wrongU s = -1
    · rw [show checkU s = 0 by unfold checkU; rw [hw]; rfl] at CC
      have HB := hid (show clientR s = true by unfold clientR; rw [e1, hw]; simp [h1])
      clear hw
      go_enter Tryz.func150, Tryz.ntmps150
      go_wp2_with (go_at_call 181; refine CC.out.mono ?_; rintro e w1 ⟨rfl, hb⟩)
      go_ret
      exact ⟨HF.out _ HB.out, hb⟩
    · rw [show checkU s = 220 by unfold checkU; rw [if_pos (by have := wrongU_lo s; omega)]] at CC
      have HB := hid (show clientR s = false by unfold clientR; rw [e1]; simp [hw])
      clear hw
      go_enter Tryz.func150, Tryz.ntmps150
      go_wp2_with (go_at_call 181; refine CC.out.mono ?_; rintro e w1 ⟨rfl, hb⟩)
      go_ret
      exact ⟨HF.out _ HB.out, hb⟩
  · have d1 : decide ((s.length : Int) ≤ 23) = false := decide_eq_false (by omega)
    have HB := hid (show clientR s = false by unfold clientR; rw [e1]; simp [h1])
    clear h1
    go_enter Tryz.func150, Tryz.ntmps150
    go_wp2
    go_ret
    exact ⟨HF.out _ HB.out, Below.refl _ _⟩

/-- What is there of a kind. -/
def kindV (s : List UInt8) (a b c : Nat) (p : Bool) : Value := .agg #[.string ⟨s.toArray⟩, .func (.func a) #[] #[], .func (.func b) #[] #[], .func (.func c) #[] #[], .bool p]
def kindsE : Array MapEntry := #[
  { key := .int .i64 1, val := kindV [115, 101, 115, 115, 105, 111, 110] 149 152 153 false, born := 0 },
  { key := .int .i64 2, val := kindV [115, 117, 98] 155 156 157 true, born := 1 },
  { key := .int .i64 3, val := kindV [111, 117, 116] 159 160 161 false, born := 2 },
  { key := .int .i64 4, val := kindV [105, 110] 163 164 165 false, born := 3 },
  { key := .int .i64 5, val := kindV [114, 101, 116, 97, 105, 110] 166 167 168 true, born := 4 }]

set_option maxRecDepth 100000 in
set_option maxHeartbeats 400000 in
theorem rec_kinds (w : World) :
    Calls Tryz.prog 108 #[] w fun e w' => e = .returned (.map (some w.heap.size)) ∧ w'.heap[w.heap.size]? = some (.map kindsE 5) ∧ Below w.heap.size w w' := by
  have hmm := @run_makeMap Tryz.prog
  have hb0 : (w.alloc (.map #[] 0)).heap[w.heap.size]? = some (.map #[] 0) := by show (w.heap.push _)[w.heap.size]? = _; simp
  have B0 : Below w.heap.size w (w.alloc (.map #[] 0)) := (Below.refl _ w).alloc (Nat.le_refl _) _
  go_enter Tryz.func108, Tryz.ntmps108
  go_wp2_with (refine wpList_insert_new _ rfl _ _ _ 189 rfl 30 187 .i64 Tryz.underlying189 Tryz.underlying30 _ _ _ rfl (by with_reducible assumption) _ _ rfl rfl (by simp [putE]) ?_; intro w1 hb1 hg1; replace B0 := B0.grown hg1 B0.size (fun k hk => by cases hk; exact Nat.le_refl _); clear hg1)
  go_ret
  refine ⟨rfl, ?_, B0⟩
  rw [hb1]
  rfl
end Go.Proofs.YtoinabapaeebfaaGreatDoor
namespace Go.Proofs
open Go.Shelf
def Tryz.lays152_ren : Go.Shelf.Ren := ⟨fun | 152 => 204 | 137 => 218 | 119 => 219 | 224 => 220 | 225 => 221 | 217 => 240 | 266 => 254 | n => n, fun | 9 => 9 | 21 => 21 | 3 => 3 | 4 => 4 | 5 => 5 | 0 => 0 | 46 => 194 | n => n, fun | n => n⟩
theorem Tryz.lays152 : Go.Proofs.Lays.n152 Tryz.prog Tryz.lays152_ren := {
  mixed := by kernel_rfl
  f119 := Tryz.func219.trans (congrArg some (by kernel_rfl))
  f137 := Tryz.func218.trans (congrArg some (by kernel_rfl))
  f152 := Tryz.func204.trans (congrArg some (by kernel_rfl))
  f217 := Tryz.func240.trans (congrArg some (by kernel_rfl))
  f224 := Tryz.func220.trans (congrArg some (by kernel_rfl))
  f225 := Tryz.func221.trans (congrArg some (by kernel_rfl))
  f266 := Tryz.func254.trans (congrArg some (by kernel_rfl))
  t0 := Tryz.underlying0
  a0 := Tryz.isAgg0
  z0 := Tryz.sizeOf0
  v0 := Tryz.zeroValue0
  t3 := Tryz.underlying3
  a3 := Tryz.isAgg3
  z3 := Tryz.sizeOf3
  v3 := Tryz.zeroValue3
  t4 := Tryz.underlying4
  a4 := Tryz.isAgg4
  z4 := Tryz.sizeOf4
  v4 := Tryz.zeroValue4
  t5 := Tryz.underlying5
  a5 := Tryz.isAgg5
  z5 := Tryz.sizeOf5
  v5 := Tryz.zeroValue5
  t9 := Tryz.underlying9
  a9 := Tryz.isAgg9
  z9 := Tryz.sizeOf9
  v9 := Tryz.zeroValue9
  t21 := Tryz.underlying21
  a21 := Tryz.isAgg21
  z21 := Tryz.sizeOf21
  v21 := Tryz.zeroValue21
  t46 := Tryz.underlying194
  a46 := Tryz.isAgg194
  z46 := Tryz.sizeOf194
  v46 := Tryz.zeroValue194 }
open Go.RowKit Go.Lib in
theorem Tryz.strings_IndexRune_ascii (s : ByteArray) (r : Int) (w : World) (h0 : 0 ≤ r) (h1 : r < 128) :
    Calls Tryz.prog 204 #[.string s, .int .i32 r] w fun e w' => e = .returned (.int .i64 (Lib.indexByte s.data.toList r.toNat.toUInt8)) ∧ w' = w := Any.strings_IndexRune_ascii Tryz.lays152 s r w h0 h1
def Tryz.lays153_ren : Go.Shelf.Ren := ⟨fun | 153 => 182 | 152 => 204 | 226 => 205 | 227 => 206 | 228 => 207 | 137 => 218 | 119 => 219 | 224 => 220 | 225 => 221 | 217 => 240 | 266 => 254 | n => n, fun | 9 => 9 | 3 => 3 | 4 => 4 | 5 => 5 | 21 => 21 | 117 => 279 | 116 => 278 | 0 => 0 | 46 => 194 | 124 => 301 | n => n, fun | n => n⟩
theorem Tryz.lays153 : Go.Proofs.Lays.n153 Tryz.prog Tryz.lays153_ren := {
  mixed := by kernel_rfl
  f119 := Tryz.func219.trans (congrArg some (by kernel_rfl))
  f137 := Tryz.func218.trans (congrArg some (by kernel_rfl))
  f152 := Tryz.func204.trans (congrArg some (by kernel_rfl))
  f153 := Tryz.func182.trans (congrArg some (by kernel_rfl))
  f217 := Tryz.func240.trans (congrArg some (by kernel_rfl))
  f224 := Tryz.func220.trans (congrArg some (by kernel_rfl))
  f225 := Tryz.func221.trans (congrArg some (by kernel_rfl))
  f226 := Tryz.func205.trans (congrArg some (by kernel_rfl))
  f227 := Tryz.func206.trans (congrArg some (by kernel_rfl))
  f228 := Tryz.func207.trans (congrArg some (by kernel_rfl))
  f266 := Tryz.func254.trans (congrArg some (by kernel_rfl))
  t0 := Tryz.underlying0
  a0 := Tryz.isAgg0
  z0 := Tryz.sizeOf0
  v0 := Tryz.zeroValue0
  t3 := Tryz.underlying3
  a3 := Tryz.isAgg3
  z3 := Tryz.sizeOf3
  v3 := Tryz.zeroValue3
  t4 := Tryz.underlying4
  a4 := Tryz.isAgg4
  z4 := Tryz.sizeOf4
  v4 := Tryz.zeroValue4
  t5 := Tryz.underlying5
  a5 := Tryz.isAgg5
  z5 := Tryz.sizeOf5
  v5 := Tryz.zeroValue5
  t9 := Tryz.underlying9
  a9 := Tryz.isAgg9
  z9 := Tryz.sizeOf9
  v9 := Tryz.zeroValue9
  t21 := Tryz.underlying21
  a21 := Tryz.isAgg21
  z21 := Tryz.sizeOf21
  v21 := Tryz.zeroValue21
  t46 := Tryz.underlying194
  a46 := Tryz.isAgg194
  z46 := Tryz.sizeOf194
  v46 := Tryz.zeroValue194
  t116 := Tryz.underlying278
  a116 := Tryz.isAgg278
  z116 := Tryz.sizeOf278
  t117 := Tryz.underlying279
  a117 := Tryz.isAgg279
  z117 := Tryz.sizeOf279
  v117 := Tryz.zeroValue279
  t124 := Tryz.underlying301
  a124 := Tryz.isAgg301
  z124 := Tryz.sizeOf301
  v124 := Tryz.zeroValue301 }
open Go.RowKit Go.Lib in
theorem Tryz.strings_IndexAny_long (hv116 : ∀ w, (zeroValue 278).run Tryz.prog w = .ok (.agg (Array.replicate 256 (.bool false))) w) (s chars : ByteArray) (w : World) (h2 : 2 ≤ chars.size) (h8 : 8 < s.size) (hs : s.size < 4294967281) (hcs : chars.size < 4294967281) (hascii : ∀ (j : Nat) b, chars.data.toList[j]? = some b → b.toNat < 128) :
    Calls Tryz.prog 182 #[.string s, .string chars] w fun e w' => e = .returned (.int .i64 (Lib.indexAny s.data.toList chars.data.toList)) ∧ w' = ((w.alloc (.cells (Lib.setCells chars.data.toList) 278)).alloc (.cells (Lib.setCells chars.data.toList) 278)) := Any.strings_IndexAny_long Tryz.lays153 hv116 (by kernel_rfl) s chars w h2 h8 hs hcs hascii
open Go.RowKit Go.Lib in
/-- strings.IndexAny ON ASCII BYTES: the four roads under one statement. (LAID: no walk: one application.) -/
theorem Tryz.strings_IndexAny (hv116 : ∀ w, (zeroValue 278).run Tryz.prog w = .ok (.agg (Array.replicate 256 (.bool false))) w) (s chars : ByteArray) (w : World) (hs : s.size < 4294967281) (hcs : chars.size < 4294967281) (has : ∀ (j : Nat) b, s.data.toList[j]? = some b → b.toNat < 128) (hac : ∀ (j : Nat) b, chars.data.toList[j]? = some b → b.toNat < 128) :
    Calls Tryz.prog 182 #[.string s, .string chars] w fun e w' => e = .returned (.int .i64 (Lib.indexAny s.data.toList chars.data.toList)) ∧ Below w.heap.size w w' := Any.strings_IndexAny Tryz.lays153 hv116 (by kernel_rfl) s chars w hs hcs has hac
def Tryz.lays150_ren : Go.Shelf.Ren := ⟨fun | 150 => 119 | 153 => 182 | 152 => 204 | 226 => 205 | 227 => 206 | 228 => 207 | 137 => 218 | 119 => 219 | 224 => 220 | 225 => 221 | 217 => 240 | 266 => 254 | n => n, fun | 9 => 9 | 4 => 4 | 3 => 3 | 5 => 5 | 21 => 21 | 117 => 279 | 116 => 278 | 0 => 0 | 46 => 194 | 124 => 301 | n => n, fun | n => n⟩
theorem Tryz.lays150 : Go.Proofs.Lays.n150 Tryz.prog Tryz.lays150_ren := {
  mixed := by kernel_rfl
  f119 := Tryz.func219.trans (congrArg some (by kernel_rfl))
  f137 := Tryz.func218.trans (congrArg some (by kernel_rfl))
  f150 := Tryz.func119.trans (congrArg some (by kernel_rfl))
  f152 := Tryz.func204.trans (congrArg some (by kernel_rfl))
  f153 := Tryz.func182.trans (congrArg some (by kernel_rfl))
  f217 := Tryz.func240.trans (congrArg some (by kernel_rfl))
  f224 := Tryz.func220.trans (congrArg some (by kernel_rfl))
  f225 := Tryz.func221.trans (congrArg some (by kernel_rfl))
  f226 := Tryz.func205.trans (congrArg some (by kernel_rfl))
  f227 := Tryz.func206.trans (congrArg some (by kernel_rfl))
  f228 := Tryz.func207.trans (congrArg some (by kernel_rfl))
  f266 := Tryz.func254.trans (congrArg some (by kernel_rfl))
  t0 := Tryz.underlying0
  a0 := Tryz.isAgg0
  z0 := Tryz.sizeOf0
  v0 := Tryz.zeroValue0
  t3 := Tryz.underlying3
  a3 := Tryz.isAgg3
  z3 := Tryz.sizeOf3
  v3 := Tryz.zeroValue3
  t4 := Tryz.underlying4
  a4 := Tryz.isAgg4
  z4 := Tryz.sizeOf4
  v4 := Tryz.zeroValue4
  t5 := Tryz.underlying5
  a5 := Tryz.isAgg5
  z5 := Tryz.sizeOf5
  v5 := Tryz.zeroValue5
  t9 := Tryz.underlying9
  a9 := Tryz.isAgg9
  z9 := Tryz.sizeOf9
  v9 := Tryz.zeroValue9
  t21 := Tryz.underlying21
  a21 := Tryz.isAgg21
  z21 := Tryz.sizeOf21
  v21 := Tryz.zeroValue21
  t46 := Tryz.underlying194
  a46 := Tryz.isAgg194
  z46 := Tryz.sizeOf194
  v46 := Tryz.zeroValue194
  t116 := Tryz.underlying278
  a116 := Tryz.isAgg278
  z116 := Tryz.sizeOf278
  t117 := Tryz.underlying279
  a117 := Tryz.isAgg279
  z117 := Tryz.sizeOf279
  v117 := Tryz.zeroValue279
  t124 := Tryz.underlying301
  a124 := Tryz.isAgg301
  z124 := Tryz.sizeOf301
  v124 := Tryz.zeroValue301 }
open Go.RowKit Go.Lib in
/-- strings.ContainsAny ON ASCII BYTES. (LAID: no walk: one application.) -/
theorem Tryz.strings_ContainsAny (hv116 : ∀ w, (zeroValue 278).run Tryz.prog w = .ok (.agg (Array.replicate 256 (.bool false))) w) (s chars : ByteArray) (w : World) (hs : s.size < 4294967281) (hcs : chars.size < 4294967281) (has : ∀ (j : Nat) b, s.data.toList[j]? = some b → b.toNat < 128) (hac : ∀ (j : Nat) b, chars.data.toList[j]? = some b → b.toNat < 128) :
    Calls Tryz.prog 119 #[.string s, .string chars] w fun e w' => e = .returned (.bool (Lib.containsAny s.data.toList chars.data.toList)) ∧ Below w.heap.size w w' := Any.strings_ContainsAny Tryz.lays150 hv116 (by kernel_rfl) s chars w hs hcs has hac
open Go.RowKit Go.Lib in
theorem Tryz.strings_IndexAny_laid (s chars : ByteArray) (w : World) (hs : s.size < 4294967281) (hcs : chars.size < 4294967281) (has : ∀ (j : Nat) b, s.data.toList[j]? = some b → b.toNat < 128) (hac : ∀ (j : Nat) b, chars.data.toList[j]? = some b → b.toNat < 128) :
    Calls Tryz.prog 182 #[.string s, .string chars] w fun e w' => e = .returned (.int .i64 (Lib.indexAny s.data.toList chars.data.toList)) ∧ Below w.heap.size w w' := Any.strings_IndexAny_laid Tryz.lays153 (by kernel_rfl) s chars w hs hcs has hac
open Go.RowKit Go.Lib in
theorem Tryz.strings_ContainsAny_laid (s chars : ByteArray) (w : World) (hs : s.size < 4294967281) (hcs : chars.size < 4294967281) (has : ∀ (j : Nat) b, s.data.toList[j]? = some b → b.toNat < 128) (hac : ∀ (j : Nat) b, chars.data.toList[j]? = some b → b.toNat < 128) :
    Calls Tryz.prog 119 #[.string s, .string chars] w fun e w' => e = .returned (.bool (Lib.containsAny s.data.toList chars.data.toList)) ∧ Below w.heap.size w w' := Any.strings_ContainsAny_laid Tryz.lays150 (by kernel_rfl) s chars w hs hcs has hac
end Go.Proofs
namespace Go.Proofs.YtoinabapaeebfaaGreatDoor
open Go.RowKit Go.Shelf

/-- What tells whether one of + and # is in a text. -/
def anyR (s : List UInt8) : Bool := Go.Lib.containsAny s [43, 35]
/-- Where strings.ContainsAny answers so. -/
def AnyOK (s : List UInt8) : Prop := ∀ w, Calls Tryz.prog 119 #[.string ⟨s.toArray⟩, .string ⟨#[43, 35]⟩] w fun e w' => e = .returned (.bool (anyR s)) ∧ Below w.heap.size w w'
theorem anyOK_ascii (s : List UInt8) (hs : s.length < 4294967281) (ha : ∀ (j : Nat) b, s[j]? = some b → b.toNat < 128) : AnyOK s := fun w => by
  refine (Tryz.strings_ContainsAny_laid ⟨s.toArray⟩ ⟨#[43, 35]⟩ w (by simpa [ByteArray.size] using hs) (by decide) (fun j b h => ha j b (by simpa using h)) (fun j b h => ?_)).mono ?_
  · rcases j with _ | _ | j <;> simp at h <;> subst h <;> decide
  · rintro e w' ⟨rfl, hb⟩
    exact ⟨rfl, hb⟩

def saidR (s : List UInt8) : Bool := !s.isEmpty && decide (s.length ≤ 200) && decide (wrongU s = -1)
def nameR (s : List UInt8) : Bool := saidR s && !anyR s

set_option maxRecDepth 100000 in
set_option maxHeartbeats 400000 in
theorem topic_said (s : List UInt8) (w : World) (hs : s.length ≤ 9223372036854775807) :
    Calls Tryz.prog 118 #[.string ⟨s.toArray⟩] w fun e w' => e = .returned (.bool (saidR s)) ∧ Below w.heap.size w w' := by
  have hsz : ByteArray.size ⟨s.toArray⟩ = s.length := by simp [ByteArray.size]
  have fin : ∀ b : Bool, saidR s = b → Ending.returned (.bool b) = .returned (.bool (saidR s)) := fun b h => by rw [h]
  have HF := hid fin
  clear fin
  by_cases h0 : s = []
  · subst h0
    go_enter Tryz.func118, Tryz.ntmps118
    go_wp2
    go_ret
    exact ⟨HF.out _ rfl, Below.refl _ _⟩
  have e0 : ((⟨s.toArray⟩ : ByteArray).toList == (⟨#[]⟩ : ByteArray).toList) = false := by
    rw [ByteArray.toList_eq, ByteArray.toList_eq]
    simpa using h0
  have e1 : s.isEmpty = false := by cases s <;> simp at h0 ⊢
  have HS0 := hid h0
  clear h0
  by_cases h1 : s.length ≤ 200
  · have CC := hid (utf_Check s w (by omega))
    by_cases hw : wrongU s = -1
    · rw [show checkU s = 0 by unfold checkU; rw [hw]; rfl] at CC
      have HB := hid (show saidR s = true by unfold saidR; rw [e1, hw]; simp [h1])
      clear hw
      go_enter Tryz.func118, Tryz.ntmps118
      go_wp2_with (go_at_call 181; refine CC.out.mono ?_; rintro e w1 ⟨rfl, hb⟩)
      go_ret
      exact ⟨HF.out _ HB.out, hb⟩
    · rw [show checkU s = 220 by unfold checkU; rw [if_pos (by have := wrongU_lo s; omega)]] at CC
      have HB := hid (show saidR s = false by unfold saidR; rw [e1]; simp [hw])
      clear hw
      go_enter Tryz.func118, Tryz.ntmps118
      go_wp2_with (go_at_call 181; refine CC.out.mono ?_; rintro e w1 ⟨rfl, hb⟩)
      go_ret
      exact ⟨HF.out _ HB.out, hb⟩
  · have d1 : decide ((s.length : Int) ≤ 200) = false := decide_eq_false (by omega)
    have HB := hid (show saidR s = false by unfold saidR; rw [e1]; simp [h1])
    clear h1
    go_enter Tryz.func118, Tryz.ntmps118
    go_wp2
    go_ret
    exact ⟨HF.out _ HB.out, Below.refl _ _⟩

set_option maxRecDepth 100000 in
set_option maxHeartbeats 400000 in
theorem topic_Name (s : List UInt8) (w : World) (hs : s.length ≤ 9223372036854775807) (hA : AnyOK s) :
    Calls Tryz.prog 63 #[.string ⟨s.toArray⟩] w fun e w' => e = .returned (.bool (nameR s)) ∧ Below w.heap.size w w' := by
  have fin : ∀ b : Bool, nameR s = b → Ending.returned (.bool b) = .returned (.bool (nameR s)) := fun b h => by rw [h]
  have HF := hid fin
  clear fin
  have CS := hid (topic_said s w hs)
  have HA := hid hA
  clear hA
  have HN := hid (show nameR s = (saidR s && !anyR s) from rfl)
  cases hq : saidR s
  · rw [hq] at CS HN
    clear hq
    go_enter Tryz.func63, Tryz.ntmps63
    go_wp2_with (go_at_call 118; refine CS.out.mono ?_; rintro e w1 ⟨rfl, hb⟩)
    go_ret
    exact ⟨HF.out _ HN.out, hb⟩
  · rw [hq] at CS HN
    clear hq
    have HM := hid (show nameR s = !anyR s by rw [HN.out]; rfl)
    go_enter Tryz.func63, Tryz.ntmps63
    go_wp2_with (first | (go_at_call 118; refine CS.out.mono ?_; rintro e w1 ⟨rfl, hb⟩) | (go_at_call 119; refine (HA.out _).mono ?_; rintro e w2 ⟨rfl, hb2⟩))
    go_ret
    refine ⟨HF.out _ ?_, hb.trans (hb2.mono hb.size)⟩
    rw [HM.out]
end Go.Proofs.YtoinabapaeebfaaGreatDoor
namespace Go.Proofs.YtoinabapaeebfaaGreatDoor
open Go.RowKit Go.Shelf

theorem rec_within_b (n a b : Int) (v : Bool) (h : (decide (a ≤ n) && decide (n ≤ b)) = v) (w : World) :
    Calls Tryz.prog 151 #[.int .i64 n, .int .i64 a, .int .i64 b] w fun e w' => e = .returned (.bool v) ∧ w = w' := by
  have := rec_within n a b w
  rwa [h] at this

theorem cellB {w w1 : World} {cs : Array Value} {T : Nat} (hb : Below (w.alloc (.cells cs T)).heap.size (w.alloc (.cells cs T)) w1) {j : Nat} {v : Value} (hv : cs[j]? = some v) :
    w1.cell? ⟨w.heap.size, j, none⟩ = some v := by
  rw [hb.cell (by simp [World.size_alloc])]
  exact (World.cell?_alloc_at _ _ _ _ rfl).trans hv

/-- May a row be put? -/
def putMay (r : RowV) : Bool := clientR r.client && (decide (0 ≤ r.seq) && decide (r.seq ≤ 4611686018427387904)) && nameR r.topic && decide ((r.body.length : Int) ≤ 2000) && (decide (1 ≤ r.qos) && decide (r.qos ≤ 2))

set_option maxRecDepth 100000 in
set_option maxHeartbeats 800000 in
theorem kinds7_put (r : RowV) (w : World) (hst : r.stage = 1) (hid0 : r.id = 0) (hc : r.client.length ≤ 9223372036854775807) (ht : r.topic.length ≤ 9223372036854775807) (hA : AnyOK r.topic) :
    Calls Tryz.prog 159 #[.agg r.vals] w fun e w' => e = .returned (.bool (putMay r)) ∧ Below w.heap.size w w' := by
  obtain ⟨kind, client, seq, id, topic, body, qos, retain, stage⟩ := r
  simp only at hst hid0 hc ht hA
  subst hst hid0
  obtain ⟨bc, hbc⟩ : ∃ b, clientR client = b := ⟨_, rfl⟩
  obtain ⟨bs, hbs⟩ : ∃ b, (decide (0 ≤ seq) && decide (seq ≤ 4611686018427387904)) = b := ⟨_, rfl⟩
  obtain ⟨bn, hbn⟩ : ∃ b, nameR topic = b := ⟨_, rfl⟩
  obtain ⟨bq, hbq⟩ : ∃ b, (decide (1 ≤ qos) && decide (qos ≤ 2)) = b := ⟨_, rfl⟩
  obtain ⟨bb, hbb⟩ : ∃ b, decide ((body.length : Int) ≤ 2000) = b := ⟨_, rfl⟩
  have HP := hid (show putMay ⟨kind, client, seq, 0, topic, body, qos, retain, 1⟩ = (bc && bs && bn && bb && bq) by unfold putMay; simp only; rw [hbc, hbs, hbn, hbq, hbb])
  have CC := fun w => rec_client client w hc
  rw [hbc] at CC
  have CN := fun w => topic_Name topic w ht hA
  rw [hbn] at CN
  have CS := rec_within_b _ _ _ _ hbs
  have CQ := rec_within_b _ _ _ _ hbq
  have hsz : ByteArray.size ⟨body.toArray⟩ = body.length := by simp [ByteArray.size]
  have HCC := hid CC
  have HCN := hid CN
  have HCS := hid CS
  have HCQ := hid CQ
  clear CC CN CS CQ hbc hbs hbn hbq hc ht hA
  unfold RowV.vals
  have K : bc = false ∨ (bc = true ∧ bs = false) ∨ (bc = true ∧ bs = true ∧ bn = false) ∨ (bc = true ∧ bs = true ∧ bn = true ∧ bb = false) ∨ (bc = true ∧ bs = true ∧ bn = true ∧ bb = true) := by
    cases bc <;> cases bs <;> cases bn <;> cases bb <;> simp
  rcases K with rfl | ⟨rfl, rfl⟩ | ⟨rfl, rfl, rfl⟩ | ⟨rfl, rfl, rfl, rfl⟩ | ⟨rfl, rfl, rfl, rfl⟩
  case inr.inr.inr.inr =>
    have hle : (body.length : Int) ≤ 2000 := of_decide_eq_true hbb
    clear hbb
    cases bq
    all_goals
      go_enter Tryz.func159, Tryz.ntmps159
      go_wp2_with (first
        | (go_at_call 150; refine (HCC.out _).mono ?_; rintro e w1 ⟨rfl, hb⟩; have c2 := cellB hb (j := 2) rfl; have c4 := cellB hb (j := 4) rfl)
        | (go_at_call 63; refine (HCN.out _).mono ?_; rintro e w2 ⟨rfl, hb2⟩; replace hb := hb.trans (hb2.mono hb.size); have c5 := cellB hb (j := 5) rfl; have c6 := cellB hb (j := 6) rfl)
        | (go_at_call 151; refine (HCS.out _).mono ?_; rintro e w3 ⟨rfl, rfl⟩; clear HCS)
        | (go_at_call 151; refine (HCQ.out _).mono ?_; rintro e w3 ⟨rfl, rfl⟩))
      go_ret
      refine ⟨by rw [HP.out]; rfl, ?_⟩
      first | exact (Below.refl _ _).alloc (Nat.le_refl _) _ |>.trans (hb.mono (by simp)) | exact ((Below.refl w.heap.size w).alloc (Nat.le_refl _) _).trans (hb.mono (by simp))
  case inr.inr.inr.inl =>
    go_enter Tryz.func159, Tryz.ntmps159
    go_wp2_with (first
      | (go_at_call 150; refine (HCC.out _).mono ?_; rintro e w1 ⟨rfl, hb⟩; have c2 := cellB hb (j := 2) rfl; have c4 := cellB hb (j := 4) rfl)
      | (go_at_call 63; refine (HCN.out _).mono ?_; rintro e w2 ⟨rfl, hb2⟩; replace hb := hb.trans (hb2.mono hb.size); have c5 := cellB hb (j := 5) rfl; have c6 := cellB hb (j := 6) rfl)
      | (go_at_call 151; refine (HCS.out _).mono ?_; rintro e w3 ⟨rfl, rfl⟩; clear HCS)
      | (go_at_call 151; refine (HCQ.out _).mono ?_; rintro e w3 ⟨rfl, rfl⟩))
    go_ret
    refine ⟨by rw [HP.out]; rfl, ?_⟩
    first | exact (Below.refl _ _).alloc (Nat.le_refl _) _ |>.trans (hb.mono (by simp)) | exact ((Below.refl w.heap.size w).alloc (Nat.le_refl _) _).trans (hb.mono (by simp))
  all_goals
    clear hbb
    go_enter Tryz.func159, Tryz.ntmps159
    go_wp2_with (first
      | (go_at_call 150; refine (HCC.out _).mono ?_; rintro e w1 ⟨rfl, hb⟩; have c2 := cellB hb (j := 2) rfl; have c4 := cellB hb (j := 4) rfl)
      | (go_at_call 63; refine (HCN.out _).mono ?_; rintro e w2 ⟨rfl, hb2⟩; replace hb := hb.trans (hb2.mono hb.size); have c5 := cellB hb (j := 5) rfl; have c6 := cellB hb (j := 6) rfl)
      | (go_at_call 151; refine (HCS.out _).mono ?_; rintro e w3 ⟨rfl, rfl⟩; clear HCS)
      | (go_at_call 151; refine (HCQ.out _).mono ?_; rintro e w3 ⟨rfl, rfl⟩))
    go_ret
    refine ⟨by rw [HP.out]; rfl, ?_⟩
    first | exact (Below.refl _ _).alloc (Nat.le_refl _) _ |>.trans (hb.mono (by simp)) | exact ((Below.refl w.heap.size w).alloc (Nat.le_refl _) _).trans (hb.mono (by simp))
end Go.Proofs.YtoinabapaeebfaaGreatDoor
namespace Go.Proofs.YtoinabapaeebfaaGreatDoor
open Go.RowKit Go.Shelf

/-- May a session's row be? -/
def sessMay (r : RowV) : Bool := clientR r.client && (decide (0 ≤ r.seq) && decide (r.seq ≤ 4611686018427387904)) && (decide (0 ≤ r.id) && decide (r.id ≤ 4611686018427387904))
/-- What a session's row has. -/
def sessHas (r : RowV) : RowV := ⟨0, r.client, r.seq, r.id, [], [], 0, false, 0⟩

set_option maxRecDepth 100000 in
set_option maxHeartbeats 800000 in
theorem kinds1 (r : RowV) (w : World) (hc : r.client.length ≤ 9223372036854775807) :
    Calls Tryz.prog 149 #[.agg r.vals] w fun e w' => e = .returned (.bool (sessMay r)) ∧ Below w.heap.size w w' := by
  obtain ⟨kind, client, seq, id, topic, body, qos, retain, stage⟩ := r
  simp only at hc
  obtain ⟨bc, hbc⟩ : ∃ b, clientR client = b := ⟨_, rfl⟩
  obtain ⟨bs, hbs⟩ : ∃ b, (decide (0 ≤ seq) && decide (seq ≤ 4611686018427387904)) = b := ⟨_, rfl⟩
  obtain ⟨bi, hbi⟩ : ∃ b, (decide (0 ≤ id) && decide (id ≤ 4611686018427387904)) = b := ⟨_, rfl⟩
  have HP := hid (show sessMay ⟨kind, client, seq, id, topic, body, qos, retain, stage⟩ = (bc && bs && bi) by unfold sessMay; simp only; rw [hbc, hbs, hbi])
  have CC := fun w => rec_client client w hc
  rw [hbc] at CC
  have HCC := hid CC
  have HCS := hid (rec_within_b _ _ _ _ hbs)
  have HCI := hid (rec_within_b _ _ _ _ hbi)
  clear CC hbc hbs hbi hc
  unfold RowV.vals
  have K : bc = false ∨ (bc = true ∧ bs = false) ∨ (bc = true ∧ bs = true ∧ bi = false) ∨ (bc = true ∧ bs = true ∧ bi = true) := by
    cases bc <;> cases bs <;> cases bi <;> simp
  rcases K with rfl | ⟨rfl, rfl⟩ | ⟨rfl, rfl, rfl⟩ | ⟨rfl, rfl, rfl⟩
  all_goals
    go_enter Tryz.func149, Tryz.ntmps149
    go_wp2_with (first
      | (go_at_call 150; refine (HCC.out _).mono ?_; rintro e w1 ⟨rfl, hb⟩; have c2 := cellB hb (j := 2) rfl; have c3 := cellB hb (j := 3) rfl)
      | (go_at_call 151; refine (HCS.out _).mono ?_; rintro e w3 ⟨rfl, rfl⟩; clear HCS)
      | (go_at_call 151; refine (HCI.out _).mono ?_; rintro e w3 ⟨rfl, rfl⟩))
    go_ret
    refine ⟨by rw [HP.out]; rfl, ?_⟩
    exact ((Below.refl w.heap.size w).alloc (Nat.le_refl _) _).trans (hb.mono (by simp))

set_option maxRecDepth 100000 in
set_option maxHeartbeats 800000 in
theorem kinds2 (r : RowV) (w : World) :
    Calls Tryz.prog 152 #[.agg r.vals] w fun e w' => e = .returned (.agg (sessHas r).vals) ∧ Below w.heap.size w w' := by
  unfold RowV.vals sessHas
  go_enter Tryz.func152, Tryz.ntmps152
  go_wp2
  go_returns
  exact ⟨rfl, ((Below.refl w.heap.size w).alloc (Nat.le_refl _) _).alloc (by simp) _⟩

set_option maxRecDepth 100000 in
set_option maxHeartbeats 800000 in
theorem kinds8 (r : RowV) (w : World) :
    Calls Tryz.prog 160 #[.agg r.vals] w fun e w' => e = .returned (.agg r.vals) ∧ Below w.heap.size w w' := by
  unfold RowV.vals
  go_enter Tryz.func160, Tryz.ntmps160
  go_wp2
  go_returns
  exact ⟨rfl, ((Below.refl w.heap.size w).alloc (Nat.le_refl _) _).alloc (by simp) _⟩
end Go.Proofs.YtoinabapaeebfaaGreatDoor
namespace Go.Proofs.YtoinabapaeebfaaGreatDoor
open Go.RowKit Go.Shelf
section
variable {P : Program} {ops : Array Oper} {KQ : Act → World → Prop} {facts : List Fact} {taken : List Nat} {a : Act} {w : World}

/-- Two that act may come up now: both ways. -/
theorem stepQ2 (j1 j2 : Nat) {o1 o2 : Oper} (hj1 : ops[j1]? = some o1) (hj2 : ops[j2]? = some o2) (hr : Region.ready .any ops (listedOf ops taken) = [j1, j2]) (hlt : taken.length < ops.size)
    (hw1 : Region.wanted o1 (yielded ops a.tmps) = true) (hw2 : Region.wanted o2 (yielded ops a.tmps) = true)
    (h1 : ∀ K : Act → World → Prop, (∀ a' w', Both (HoldR (j1 :: taken) facts w') (atR P ops KQ facts (j1 :: taken) a' w') → K a' w') → o1.wp P a w K (onlyN KQ))
    (h2 : ∀ K : Act → World → Prop, (∀ a' w', Both (HoldR (j2 :: taken) facts w') (atR P ops KQ facts (j2 :: taken) a' w') → K a' w') → o2.wp P a w K (onlyN KQ)) : atR P ops KQ facts taken a w := by
  intro ht hcl hfr
  have hl1 : j1 < ops.size := (Array.getElem?_eq_some_iff.1 hj1).1
  have hl2 : j2 < ops.size := (Array.getElem?_eq_some_iff.1 hj2).1
  have go : ∀ (j : Nat) (oj : Oper), ops[j]? = some oj → j < ops.size → j ∈ Region.ready .any ops (listedOf ops taken) → Region.wanted oj (yielded ops a.tmps) = true →
      (∀ K : Act → World → Prop, (∀ a' w', Both (HoldR (j :: taken) facts w') (atR P ops KQ facts (j :: taken) a' w') → K a' w') → oj.wp P a w K (onlyN KQ)) →
      wpOp P ops (onlyN KQ) j (fun a' w' => FR facts ((listedOf ops taken).setIfInBounds j true) w' ∧ wpAnyR P .any ops (onlyN KQ) facts (ops.size - (j :: taken).length) ((listedOf ops taken).setIfInBounds j true) a' w') a w := by
    intro j oj hj hlj hrj hw h
    have ht' : ∀ i ∈ j :: taken, i < ops.size := fun i hi => by exact (List.mem_cons.1 hi).elim (fun e => e ▸ hlj) (ht i)
    unfold wpOp
    rw [hj]
    dsimp only
    rw [if_pos hw]
    refine .inl (h _ fun a' w' hb => ?_)
    have hf : FR facts (listedOf ops (j :: taken)) w' := fun f hf hl => hb.one.mem f hf (by rw [listedOf_get _ _ ht'] at hl; exact hl)
    exact ⟨hf, hb.two ht' (hcl.step hrj) hf⟩
  have e1 : ops.size - taken.length = (ops.size - (j1 :: taken).length) + 1 := by simp only [List.length_cons]; omega
  rw [e1]
  refine ⟨fun h0 => absurd (hr.symm.trans h0) (by simp), fun i hi => ?_⟩
  rw [hr] at hi
  have hi' : i = j1 ∨ i = j2 := by simpa using hi
  rcases hi' with rfl | rfl
  · exact go _ _ hj1 hl1 (by rw [hr]; simp) hw1 h1
  · exact go _ _ hj2 hl2 (by rw [hr]; simp) hw2 h2
end

section
variable {P : Program} {ops : Array Oper} {KQ : Act → World → Prop} {facts : List Fact} {taken : List Nat} {a : Act} {w : World}
theorem nilQ (i : Nat) {oi : Oper} (hi : ops[i]? = some oi) (hB : takeB ops (facts.map (·.1)) taken i = true) (hw : Region.wanted oi (yielded ops a.tmps) = true) {x : Operand} (hop : oi.op = .nilCheck x) {p : Addr} (hx : a.eval x = .pointer (some p))
    (h : atR P ops KQ facts (i :: taken) (a.put oi.dst (.pointer (some p))) w) : atR P ops KQ facts taken a w := by
  refine readQ i hi hB _ hw (fun w' _ => ?_) h
  simp [execOp, hop, hx]
end
end Go.Proofs.YtoinabapaeebfaaGreatDoor
