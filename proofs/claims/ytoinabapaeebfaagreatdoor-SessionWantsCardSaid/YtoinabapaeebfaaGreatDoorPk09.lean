/- Maps with integer keys whose entries are known: an entry is set, an entry is looked up. · Contracts of package records: rows as values; within, client, the tests of a session's row. · Laid by the kit's shelf tools (lay-shelf, lay-plain) at this seat's dump. · Contracts of package records (part 2): may a row be put; may a session's row be. -/
import Derived.Test.YtoinabapaeebfaaGreatDoorPk08
import Derived.Maps.OwnOps
import Derived.Shelf.Strings.Runes
import Derived.Shelf.Strings.IndexAnyAll
import Derived.Test.YtoinabapaeebfaaGreatDoorProg
set_option linter.unusedSimpArgs false
set_option linter.unusedVariables false
namespace Go.Proofs.YtoinabapaeebfaaGreatDoor
open Go.RowKit Go.Shelf Go.MapKept Go.ChangeMaps

theorem findNow_none (q : IntKind) (n : Int) : ∀ (es : List MapEntry) (i : Nat), (∀ x : MapEntry, x ∈ es → ∃ a, x.key = .int q a ∧ a ≠ n) → Instr.findNow (.int q) (.int q n) es i = some none := by
  intro es
  induction es with
  | nil => intro i _; rfl
  | cons e es ih =>
    intro i h
    obtain ⟨a, ha, hn⟩ := h e (by simp)
    have hb : (n == a) = false := by simp; omega
    simp [Instr.findNow, ha, Instr.sameNow, hb]
    exact ih _ (fun x hx => h x (by simp [hx]))

/-- The entries behind an entry. -/
def putE (es : Array MapEntry) (key val : Value) (clock : Nat) : Array MapEntry := es.push { key, val, born := clock }

theorem run_mapUpdate_new {P : Program} (t k e : TypeId) (q : IntKind) (ht : P.underlying t = some (.map k e)) (hk : P.underlying k = some (.int q)) (w : World) (b : Nat) (es : Array MapEntry) (clock : Nat)
    (hb : w.heap[b]? = some (.map es clock)) (n : Int) (hn : ∀ x : MapEntry, x ∈ es.toList → ∃ a, x.key = .int q a ∧ a ≠ n) (v : Value) :
    (Instr.mapUpdate t (.map (some b)) (.int q n) v).run P w = .ok () (setBlock w b (.map (putE es (.int q n) v clock) (clock + 1))) := by
  have h1 := run_findKey (w := w) hk (findNow_none q n es.toList 0 hn)
  have h2 := run_checkKey (w := w) hk (k := .int q n) (by simp [IsKey]) false 9999
  simp [Instr.mapUpdate, run_underlying ht, MapKept.run_getObj_map hb, h2, h1, MapKept.run_setObj_map _ hb, Result.andThen, setBlock, putE]

/-- An entry is set whose key is new. -/
theorem wpList_insert_new {P : Program} (w : World) {ops : Array Oper} {rest : List Oper} {o : Oper} {a : Act} {Q : Exit → Act → World → Prop}
    (hg : o.guard = none) (m x v : Operand) (t : TypeId) (hop : o.op = Op.insert t m x v)
    (k e : TypeId) (q : IntKind) (ht : P.underlying t = some (.map k e)) (hk : P.underlying k = some (.int q)) (b : Nat) (es : Array MapEntry) (clock : Nat)
    (hm : a.eval m = .map (some b)) (hb : w.heap[b]? = some (.map es clock)) (n : Int) (val : Value) (hx : a.eval x = .int q n) (hv : a.eval v = val)
    (hn : ∀ x : MapEntry, x ∈ es.toList → ∃ a, x.key = .int q a ∧ a ≠ n)
    (hK : ∀ w', w'.heap[b]? = some (.map (putE es (.int q n) val clock) (clock + 1)) → w.grownBy w' (some b) → wpList P ops Q rest (a.put o.dst undef) w') :
    wpList P ops Q (o :: rest) a w := by
  refine wpList_plain hg fun K' hK' => ?_
  have hrun := run_mapUpdate_new t k e q ht hk w b es clock hb n hn val
  unfold Oper.wp
  simp [execOp, hop, hm, hx, hv, hrun, Result.andThen]
  refine hK' _ _ (hK _ ?_ ?_)
  · have : b < w.heap.size := by rcases Nat.lt_or_ge b w.heap.size with h | h; exact h; rw [Array.getElem?_eq_none h] at hb; cases hb
    simp [setBlock, this]
  · exact World.mapTurned.grown ⟨es, clock, _, _, hb, rfl⟩

/-- An entry that is there is found. -/
theorem run_lookup_at {P : Program} (t k e : TypeId) (q : IntKind) (ht : P.underlying t = some (.map k e)) (hk : P.underlying k = some (.int q)) (w : World) (b : Nat) (es : Array MapEntry) (clock : Nat)
    (hb : w.heap[b]? = some (.map es clock)) (n : Int) (v : Value) (j : Nat) (hn : Instr.findNow (.int q) (.int q n) es.toList 0 = some (some (j, v))) (c : Bool) :
    (Instr.lookup t (.map (some b)) (.int q n) c).run P w = .ok (if c then .tuple #[v, .bool true] else v) w := by
  have h1 := run_findKey (w := w) hk hn
  have h2 := fun z => run_checkKey (w := w) hk (k := .int q n) (by simp [IsKey]) z 9999
  simp [Instr.lookup, run_underlying ht, MapKept.run_getObj_map hb, h2, h1, Result.andThen]

/-- One that is not there is not. -/
theorem run_lookup_not {P : Program} (t k e : TypeId) (q : IntKind) (ht : P.underlying t = some (.map k e)) (hk : P.underlying k = some (.int q)) (w : World) (b : Nat) (es : Array MapEntry) (clock : Nat) (z : Value)
    (hz : (zeroValue e).run P w = .ok z w)
    (hb : w.heap[b]? = some (.map es clock)) (n : Int) (hn : ∀ x : MapEntry, x ∈ es.toList → ∃ a, x.key = .int q a ∧ a ≠ n) (c : Bool) :
    (Instr.lookup t (.map (some b)) (.int q n) c).run P w = .ok (if c then .tuple #[z, .bool false] else z) w := by
  have h1 := run_findKey (w := w) hk (findNow_none q n es.toList 0 hn)
  have h2 := fun z => run_checkKey (w := w) hk (k := .int q n) (by simp [IsKey]) z 9999
  simp [Instr.lookup, run_underlying ht, MapKept.run_getObj_map hb, h2, h1, hz, Result.andThen]
end Go.Proofs.YtoinabapaeebfaaGreatDoor
namespace Go.Proofs.YtoinabapaeebfaaGreatDoor
open Go.RowKit Go.Shelf

/-- A row. -/
structure RowV where
  kind : Int
  client : List UInt8
  seq : Int
  id : Int
  topic : List UInt8
  body : List UInt8
  qos : Int
  retain : Bool
  stage : Int
def RowV.vals (r : RowV) : Array Value := #[.int .i64 r.kind, .string ⟨r.client.toArray⟩, .int .i64 r.seq, .int .i64 r.id, .string ⟨r.topic.toArray⟩, .string ⟨r.body.toArray⟩, .int .i64 r.qos, .bool r.retain, .int .i64 r.stage]

set_option maxRecDepth 100000 in
set_option maxHeartbeats 400000 in
theorem rec_within (n a b : Int) (w : World) :
    Calls Tryz.prog 151 #[.int .i64 n, .int .i64 a, .int .i64 b] w fun e w' => e = .returned (.bool (decide (a ≤ n) && decide (n ≤ b))) ∧ w = w' := by
  by_cases h : a ≤ n
  · go_enter Tryz.func151, Tryz.ntmps151
    go_wp2
    go_ret
    simp [h]
  · have d : decide (a ≤ n) = false := decide_eq_false h
    go_enter Tryz.func151, Tryz.ntmps151
    go_wp2
    go_ret
    simp [d]

/-- May a client be? -/
def clientR (s : List UInt8) : Bool := !s.isEmpty && decide (s.length ≤ 23) && decide (wrongU s = -1)
set_option maxRecDepth 100000 in
set_option maxHeartbeats 400000 in
theorem rec_client (s : List UInt8) (w : World) (hs : s.length ≤ 9223372036854775807) :
    Calls Tryz.prog 150 #[.string ⟨s.toArray⟩] w fun e w' => e = .returned (.bool (clientR s)) ∧ Below w.heap.size w w' := by
  have hsz : ByteArray.size ⟨s.toArray⟩ = s.length := by simp [ByteArray.size]
  have fin : ∀ b : Bool, clientR s = b → Ending.returned (.bool b) = .returned (.bool (clientR s)) := fun b h => by rw [h]
  have HF := hid fin
  clear fin
  by_cases h0 : s = []
  · subst h0
    go_enter Tryz.func150, Tryz.ntmps150
    go_wp2
    go_ret
    exact ⟨HF.out _ rfl, Below.refl _ _⟩
  have e0 : ((⟨s.toArray⟩ : ByteArray).toList == (⟨#[]⟩ : ByteArray).toList) = false := by
    rw [ByteArray.toList_eq, ByteArray.toList_eq]
    simpa using h0
  have e1 : s.isEmpty = false := by cases s <;> simp at h0 ⊢
  have HS0 := hid h0
  clear h0
  by_cases h1 : s.length ≤ 23
  · have CC := hid (utf_Check s w (by omega))
    by_cases hw : wrongU s = -1
    · rw [show checkU s = 0 by unfold checkU; rw [hw]; rfl] at CC
      have HB := hid (show clientR s = true by unfold clientR; rw [e1, hw]; simp [h1])
      clear hw
      go_enter Tryz.func150, Tryz.ntmps150
      go_wp2_with (go_at_call 181; refine CC.out.mono ?_; rintro e w1 ⟨rfl, hb⟩)
      go_ret
      exact ⟨HF.out _ HB.out, hb⟩
    · rw [show checkU s = 220 by unfold checkU; rw [if_pos (by have := wrongU_lo s; omega)]] at CC
      have HB := hid (show clientR s = false by unfold clientR; rw [e1]; simp [hw])
      clear hw
      go_enter Tryz.func150, Tryz.ntmps150
      go_wp2_with (go_at_call 181; refine CC.out.mono ?_; rintro e w1 ⟨rfl, hb⟩)
      go_ret
      exact ⟨HF.out _ HB.out, hb⟩
  · have d1 : decide ((s.length : Int) ≤ 23) = false := decide_eq_false (by omega)
    have HB := hid (show clientR s = false by unfold clientR; rw [e1]; simp [h1])
    clear h1
    go_enter Tryz.func150, Tryz.ntmps150
    go_wp2
    go_ret
    exact ⟨HF.out _ HB.out, Below.refl _ _⟩

/-- What is there of a kind. -/
def kindV (s : List UInt8) (a b c : Nat) (p : Bool) : Value := .agg #[.string ⟨s.toArray⟩, .func (.func a) #[] #[], .func (.func b) #[] #[], .func (.func c) #[] #[], .bool p]
def kindsE : Array MapEntry := #[
  { key := .int .i64 1, val := kindV [115, 101, 115, 115, 105, 111, 110] 149 152 153 false, born := 0 },
  { key := .int .i64 2, val := kindV [115, 117, 98] 155 156 157 true, born := 1 },
  { key := .int .i64 3, val := kindV [111, 117, 116] 159 160 161 false, born := 2 },
  { key := .int .i64 4, val := kindV [105, 110] 163 164 165 false, born := 3 },
  { key := .int .i64 5, val := kindV [114, 101, 116, 97, 105, 110] 166 167 168 true, born := 4 }]

set_option maxRecDepth 100000 in
set_option maxHeartbeats 400000 in
theorem rec_kinds (w : World) :
    Calls Tryz.prog 108 #[] w fun e w' => e = .returned (.map (some w.heap.size)) ∧ w'.heap[w.heap.size]? = some (.map kindsE 5) ∧ Below w.heap.size w w' := by
  have hmm := @run_makeMap Tryz.prog
  have hb0 : (w.alloc (.map #[] 0)).heap[w.heap.size]? = some (.map #[] 0) := by show (w.heap.push _)[w.heap.size]? = _; simp
  have B0 : Below w.heap.size w (w.alloc (.map #[] 0)) := (Below.refl _ w).alloc (Nat.le_refl _) _
  go_enter Tryz.func108, Tryz.ntmps108
  go_wp2_with (refine wpList_insert_new _ rfl _ _ _ 189 rfl 30 187 .i64 Tryz.underlying189 Tryz.underlying30 _ _ _ rfl (by with_reducible assumption) _ _ rfl rfl (by simp [putE]) ?_; intro w1 hb1 hg1; replace B0 := B0.grown hg1 B0.size (fun k hk => by cases hk; exact Nat.le_refl _); clear hg1)
  go_ret
  refine ⟨rfl, ?_, B0⟩
  rw [hb1]
  rfl
end Go.Proofs.YtoinabapaeebfaaGreatDoor
namespace Go.Proofs
open Go.Shelf
def Tryz.lays152_ren : Go.Shelf.Ren := ⟨fun | 152 => 204 | 137 => 218 | 119 => 219 | 224 => 220 | 225 => 221 | 217 => 240 | 266 => 254 | n => n, fun | 9 => 9 | 21 => 21 | 3 => 3 | 4 => 4 | 5 => 5 | 0 => 0 | 46 => 194 | n => n, fun | n => n⟩
theorem Tryz.lays152 : Go.Proofs.Lays.n152 Tryz.prog Tryz.lays152_ren := {
  mixed := by kernel_rfl
  f119 := Tryz.func219.trans (congrArg some (by kernel_rfl))
  f137 := Tryz.func218.trans (congrArg some (by kernel_rfl))
  f152 := Tryz.func204.trans (congrArg some (by kernel_rfl))
  f217 := Tryz.func240.trans (congrArg some (by kernel_rfl))
  f224 := Tryz.func220.trans (congrArg some (by kernel_rfl))
  f225 := Tryz.func221.trans (congrArg some (by kernel_rfl))
  f266 := Tryz.func254.trans (congrArg some (by kernel_rfl))
  t0 := Tryz.underlying0
  a0 := Tryz.isAgg0
  z0 := Tryz.sizeOf0
  v0 := Tryz.zeroValue0
  t3 := Tryz.underlying3
  a3 := Tryz.isAgg3
  z3 := Tryz.sizeOf3
  v3 := Tryz.zeroValue3
  t4 := Tryz.underlying4
  a4 := Tryz.isAgg4
  z4 := Tryz.sizeOf4
  v4 := Tryz.zeroValue4
  t5 := Tryz.underlying5
  a5 := Tryz.isAgg5
  z5 := Tryz.sizeOf5
  v5 := Tryz.zeroValue5
  t9 := Tryz.underlying9
  a9 := Tryz.isAgg9
  z9 := Tryz.sizeOf9
  v9 := Tryz.zeroValue9
  t21 := Tryz.underlying21
  a21 := Tryz.isAgg21
  z21 := Tryz.sizeOf21
  v21 := Tryz.zeroValue21
  t46 := Tryz.underlying194
  a46 := Tryz.isAgg194
  z46 := Tryz.sizeOf194
  v46 := Tryz.zeroValue194 }
open Go.RowKit Go.Lib in
theorem Tryz.strings_IndexRune_ascii (s : ByteArray) (r : Int) (w : World) (h0 : 0 ≤ r) (h1 : r < 128) :
    Calls Tryz.prog 204 #[.string s, .int .i32 r] w fun e w' => e = .returned (.int .i64 (Lib.indexByte s.data.toList r.toNat.toUInt8)) ∧ w' = w := Any.strings_IndexRune_ascii Tryz.lays152 s r w h0 h1
def Tryz.lays153_ren : Go.Shelf.Ren := ⟨fun | 153 => 182 | 152 => 204 | 226 => 205 | 227 => 206 | 228 => 207 | 137 => 218 | 119 => 219 | 224 => 220 | 225 => 221 | 217 => 240 | 266 => 254 | n => n, fun | 9 => 9 | 3 => 3 | 4 => 4 | 5 => 5 | 21 => 21 | 117 => 279 | 116 => 278 | 0 => 0 | 46 => 194 | 124 => 301 | n => n, fun | n => n⟩
theorem Tryz.lays153 : Go.Proofs.Lays.n153 Tryz.prog Tryz.lays153_ren := {
  mixed := by kernel_rfl
  f119 := Tryz.func219.trans (congrArg some (by kernel_rfl))
  f137 := Tryz.func218.trans (congrArg some (by kernel_rfl))
  f152 := Tryz.func204.trans (congrArg some (by kernel_rfl))
  f153 := Tryz.func182.trans (congrArg some (by kernel_rfl))
  f217 := Tryz.func240.trans (congrArg some (by kernel_rfl))
  f224 := Tryz.func220.trans (congrArg some (by kernel_rfl))
  f225 := Tryz.func221.trans (congrArg some (by kernel_rfl))
  f226 := Tryz.func205.trans (congrArg some (by kernel_rfl))
  f227 := Tryz.func206.trans (congrArg some (by kernel_rfl))
  f228 := Tryz.func207.trans (congrArg some (by kernel_rfl))
  f266 := Tryz.func254.trans (congrArg some (by kernel_rfl))
  t0 := Tryz.underlying0
  a0 := Tryz.isAgg0
  z0 := Tryz.sizeOf0
  v0 := Tryz.zeroValue0
  t3 := Tryz.underlying3
  a3 := Tryz.isAgg3
  z3 := Tryz.sizeOf3
  v3 := Tryz.zeroValue3
  t4 := Tryz.underlying4
  a4 := Tryz.isAgg4
  z4 := Tryz.sizeOf4
  v4 := Tryz.zeroValue4
  t5 := Tryz.underlying5
  a5 := Tryz.isAgg5
  z5 := Tryz.sizeOf5
  v5 := Tryz.zeroValue5
  t9 := Tryz.underlying9
  a9 := Tryz.isAgg9
  z9 := Tryz.sizeOf9
  v9 := Tryz.zeroValue9
  t21 := Tryz.underlying21
  a21 := Tryz.isAgg21
  z21 := Tryz.sizeOf21
  v21 := Tryz.zeroValue21
  t46 := Tryz.underlying194
  a46 := Tryz.isAgg194
  z46 := Tryz.sizeOf194
  v46 := Tryz.zeroValue194
  t116 := Tryz.underlying278
  a116 := Tryz.isAgg278
  z116 := Tryz.sizeOf278
  t117 := Tryz.underlying279
  a117 := Tryz.isAgg279
  z117 := Tryz.sizeOf279
  v117 := Tryz.zeroValue279
  t124 := Tryz.underlying301
  a124 := Tryz.isAgg301
  z124 := Tryz.sizeOf301
  v124 := Tryz.zeroValue301 }
open Go.RowKit Go.Lib in
theorem Tryz.strings_IndexAny_long (hv116 : ∀ w, (zeroValue 278).run Tryz.prog w = .ok (.agg (Array.replicate 256 (.bool false))) w) (s chars : ByteArray) (w : World) (h2 : 2 ≤ chars.size) (h8 : 8 < s.size) (hs : s.size < 4294967281) (hcs : chars.size < 4294967281) (hascii : ∀ (j : Nat) b, chars.data.toList[j]? = some b → b.toNat < 128) :
    Calls Tryz.prog 182 #[.string s, .string chars] w fun e w' => e = .returned (.int .i64 (Lib.indexAny s.data.toList chars.data.toList)) ∧ w' = ((w.alloc (.cells (Lib.setCells chars.data.toList) 278)).alloc (.cells (Lib.setCells chars.data.toList) 278)) := Any.strings_IndexAny_long Tryz.lays153 hv116 (by kernel_rfl) s chars w h2 h8 hs hcs hascii
open Go.RowKit Go.Lib in
/-- strings.IndexAny ON ASCII BYTES: the four roads under one statement. (LAID: no walk: one application.) -/
theorem Tryz.strings_IndexAny (hv116 : ∀ w, (zeroValue 278).run Tryz.prog w = .ok (.agg (Array.replicate 256 (.bool false))) w) (s chars : ByteArray) (w : World) (hs : s.size < 4294967281) (hcs : chars.size < 4294967281) (has : ∀ (j : Nat) b, s.data.toList[j]? = some b → b.toNat < 128) (hac : ∀ (j : Nat) b, chars.data.toList[j]? = some b → b.toNat < 128) :
    Calls Tryz.prog 182 #[.string s, .string chars] w fun e w' => e = .returned (.int .i64 (Lib.indexAny s.data.toList chars.data.toList)) ∧ Below w.heap.size w w' := Any.strings_IndexAny Tryz.lays153 hv116 (by kernel_rfl) s chars w hs hcs has hac
def Tryz.lays150_ren : Go.Shelf.Ren := ⟨fun | 150 => 119 | 153 => 182 | 152 => 204 | 226 => 205 | 227 => 206 | 228 => 207 | 137 => 218 | 119 => 219 | 224 => 220 | 225 => 221 | 217 => 240 | 266 => 254 | n => n, fun | 9 => 9 | 4 => 4 | 3 => 3 | 5 => 5 | 21 => 21 | 117 => 279 | 116 => 278 | 0 => 0 | 46 => 194 | 124 => 301 | n => n, fun | n => n⟩
theorem Tryz.lays150 : Go.Proofs.Lays.n150 Tryz.prog Tryz.lays150_ren := {
  mixed := by kernel_rfl
  f119 := Tryz.func219.trans (congrArg some (by kernel_rfl))
  f137 := Tryz.func218.trans (congrArg some (by kernel_rfl))
  f150 := Tryz.func119.trans (congrArg some (by kernel_rfl))
  f152 := Tryz.func204.trans (congrArg some (by kernel_rfl))
  f153 := Tryz.func182.trans (congrArg some (by kernel_rfl))
  f217 := Tryz.func240.trans (congrArg some (by kernel_rfl))
  f224 := Tryz.func220.trans (congrArg some (by kernel_rfl))
  f225 := Tryz.func221.trans (congrArg some (by kernel_rfl))
  f226 := Tryz.func205.trans (congrArg some (by kernel_rfl))
  f227 := Tryz.func206.trans (congrArg some (by kernel_rfl))
  f228 := Tryz.func207.trans (congrArg some (by kernel_rfl))
  f266 := Tryz.func254.trans (congrArg some (by kernel_rfl))
  t0 := Tryz.underlying0
  a0 := Tryz.isAgg0
  z0 := Tryz.sizeOf0
  v0 := Tryz.zeroValue0
  t3 := Tryz.underlying3
  a3 := Tryz.isAgg3
  z3 := Tryz.sizeOf3
  v3 := Tryz.zeroValue3
  t4 := Tryz.underlying4
  a4 := Tryz.isAgg4
  z4 := Tryz.sizeOf4
  v4 := Tryz.zeroValue4
  t5 := Tryz.underlying5
  a5 := Tryz.isAgg5
  z5 := Tryz.sizeOf5
  v5 := Tryz.zeroValue5
  t9 := Tryz.underlying9
  a9 := Tryz.isAgg9
  z9 := Tryz.sizeOf9
  v9 := Tryz.zeroValue9
  t21 := Tryz.underlying21
  a21 := Tryz.isAgg21
  z21 := Tryz.sizeOf21
  v21 := Tryz.zeroValue21
  t46 := Tryz.underlying194
  a46 := Tryz.isAgg194
  z46 := Tryz.sizeOf194
  v46 := Tryz.zeroValue194
  t116 := Tryz.underlying278
  a116 := Tryz.isAgg278
  z116 := Tryz.sizeOf278
  t117 := Tryz.underlying279
  a117 := Tryz.isAgg279
  z117 := Tryz.sizeOf279
  v117 := Tryz.zeroValue279
  t124 := Tryz.underlying301
  a124 := Tryz.isAgg301
  z124 := Tryz.sizeOf301
  v124 := Tryz.zeroValue301 }
open Go.RowKit Go.Lib in
/-- strings.ContainsAny ON ASCII BYTES. (LAID: no walk: one application.) -/
theorem Tryz.strings_ContainsAny (hv116 : ∀ w, (zeroValue 278).run Tryz.prog w = .ok (.agg (Array.replicate 256 (.bool false))) w) (s chars : ByteArray) (w : World) (hs : s.size < 4294967281) (hcs : chars.size < 4294967281) (has : ∀ (j : Nat) b, s.data.toList[j]? = some b → b.toNat < 128) (hac : ∀ (j : Nat) b, chars.data.toList[j]? = some b → b.toNat < 128) :
    Calls Tryz.prog 119 #[.string s, .string chars] w fun e w' => e = .returned (.bool (Lib.containsAny s.data.toList chars.data.toList)) ∧ Below w.heap.size w w' := Any.strings_ContainsAny Tryz.lays150 hv116 (by kernel_rfl) s chars w hs hcs has hac
open Go.RowKit Go.Lib in
theorem Tryz.strings_IndexAny_laid (s chars : ByteArray) (w : World) (hs : s.size < 4294967281) (hcs : chars.size < 4294967281) (has : ∀ (j : Nat) b, s.data.toList[j]? = some b → b.toNat < 128) (hac : ∀ (j : Nat) b, chars.data.toList[j]? = some b → b.toNat < 128) :
    Calls Tryz.prog 182 #[.string s, .string chars] w fun e w' => e = .returned (.int .i64 (Lib.indexAny s.data.toList chars.data.toList)) ∧ Below w.heap.size w w' := Any.strings_IndexAny_laid Tryz.lays153 (by kernel_rfl) s chars w hs hcs has hac
open Go.RowKit Go.Lib in
theorem Tryz.strings_ContainsAny_laid (s chars : ByteArray) (w : World) (hs : s.size < 4294967281) (hcs : chars.size < 4294967281) (has : ∀ (j : Nat) b, s.data.toList[j]? = some b → b.toNat < 128) (hac : ∀ (j : Nat) b, chars.data.toList[j]? = some b → b.toNat < 128) :
    Calls Tryz.prog 119 #[.string s, .string chars] w fun e w' => e = .returned (.bool (Lib.containsAny s.data.toList chars.data.toList)) ∧ Below w.heap.size w w' := Any.strings_ContainsAny_laid Tryz.lays150 (by kernel_rfl) s chars w hs hcs has hac
end Go.Proofs
namespace Go.Proofs.YtoinabapaeebfaaGreatDoor
open Go.RowKit Go.Shelf

/-- What tells whether one of + and # is in a text. -/
def anyR (s : List UInt8) : Bool := Go.Lib.containsAny s [43, 35]
/-- Where strings.ContainsAny answers so. -/
def AnyOK (s : List UInt8) : Prop := ∀ w, Calls Tryz.prog 119 #[.string ⟨s.toArray⟩, .string ⟨#[43, 35]⟩] w fun e w' => e = .returned (.bool (anyR s)) ∧ Below w.heap.size w w'
theorem anyOK_ascii (s : List UInt8) (hs : s.length < 4294967281) (ha : ∀ (j : Nat) b, s[j]? = some b → b.toNat < 128) : AnyOK s := fun w => by
  refine (Tryz.strings_ContainsAny_laid ⟨s.toArray⟩ ⟨#[43, 35]⟩ w (by simpa [ByteArray.size] using hs) (by decide) (fun j b h => ha j b (by simpa using h)) (fun j b h => ?_)).mono ?_
  · rcases j with _ | _ | j <;> simp at h <;> subst h <;> decide
  · rintro e w' ⟨rfl, hb⟩
    exact ⟨rfl, hb⟩

def saidR (s : List UInt8) : Bool := !s.isEmpty && decide (s.length ≤ 200) && decide (wrongU s = -1)
def nameR (s : List UInt8) : Bool := saidR s && !anyR s

set_option maxRecDepth 100000 in
set_option maxHeartbeats 400000 in
theorem topic_said (s : List UInt8) (w : World) (hs : s.length ≤ 9223372036854775807) :
    Calls Tryz.prog 118 #[.string ⟨s.toArray⟩] w fun e w' => e = .returned (.bool (saidR s)) ∧ Below w.heap.size w w' := by
  have hsz : ByteArray.size ⟨s.toArray⟩ = s.length := by simp [ByteArray.size]
  have fin : ∀ b : Bool, saidR s = b → Ending.returned (.bool b) = .returned (.bool (saidR s)) := fun b h => by rw [h]
  have HF := hid fin
  clear fin
  by_cases h0 : s = []
  · subst h0
    go_enter Tryz.func118, Tryz.ntmps118
    go_wp2
    go_ret
    exact ⟨HF.out _ rfl, Below.refl _ _⟩
  have e0 : ((⟨s.toArray⟩ : ByteArray).toList == (⟨#[]⟩ : ByteArray).toList) = false := by
    rw [ByteArray.toList_eq, ByteArray.toList_eq]
    simpa using h0
  have e1 : s.isEmpty = false := by cases s <;> simp at h0 ⊢
  have HS0 := hid h0
  clear h0
  by_cases h1 : s.length ≤ 200
  · have CC := hid (utf_Check s w (by omega))
    by_cases hw : wrongU s = -1
    · rw [show checkU s = 0 by unfold checkU; rw [hw]; rfl] at CC
      have HB := hid (show saidR s = true by unfold saidR; rw [e1, hw]; simp [h1])
      clear hw
      go_enter Tryz.func118, Tryz.ntmps118
      go_wp2_with (go_at_call 181; refine CC.out.mono ?_; rintro e w1 ⟨rfl, hb⟩)
      go_ret
      exact ⟨HF.out _ HB.out, hb⟩
    · rw [show checkU s = 220 by unfold checkU; rw [if_pos (by have := wrongU_lo s; omega)]] at CC
      have HB := hid (show saidR s = false by unfold saidR; rw [e1]; simp [hw])
      clear hw
      go_enter Tryz.func118, Tryz.ntmps118
      go_wp2_with (go_at_call 181; refine CC.out.mono ?_; rintro e w1 ⟨rfl, hb⟩)
      go_ret
      exact ⟨HF.out _ HB.out, hb⟩
  · have d1 : decide ((s.length : Int) ≤ 200) = false := decide_eq_false (by omega)
    have HB := hid (show saidR s = false by unfold saidR; rw [e1]; simp [h1])
    clear h1
    go_enter Tryz.func118, Tryz.ntmps118
    go_wp2
    go_ret
    exact ⟨HF.out _ HB.out, Below.refl _ _⟩

set_option maxRecDepth 100000 in
set_option maxHeartbeats 400000 in
theorem topic_Name (s : List UInt8) (w : World) (hs : s.length ≤ 9223372036854775807) (hA : AnyOK s) :
    Calls Tryz.prog 63 #[.string ⟨s.toArray⟩] w fun e w' => e = .returned (.bool (nameR s)) ∧ Below w.heap.size w w' := by
  have fin : ∀ b : Bool, nameR s = b → Ending.returned (.bool b) = .returned (.bool (nameR s)) := fun b h => by rw [h]
  have HF := hid fin
  clear fin
  have CS := hid (topic_said s w hs)
  have HA := hid hA
  clear hA
  have HN := hid (show nameR s = (saidR s && !anyR s) from rfl)
  cases hq : saidR s
  · rw [hq] at CS HN
    clear hq
    go_enter Tryz.func63, Tryz.ntmps63
    go_wp2_with (go_at_call 118; refine CS.out.mono ?_; rintro e w1 ⟨rfl, hb⟩)
    go_ret
    exact ⟨HF.out _ HN.out, hb⟩
  · rw [hq] at CS HN
    clear hq
    have HM := hid (show nameR s = !anyR s by rw [HN.out]; rfl)
    go_enter Tryz.func63, Tryz.ntmps63
    go_wp2_with (first | (go_at_call 118; refine CS.out.mono ?_; rintro e w1 ⟨rfl, hb⟩) | (go_at_call 119; refine (HA.out _).mono ?_; rintro e w2 ⟨rfl, hb2⟩))
    go_ret
    refine ⟨HF.out _ ?_, hb.trans (hb2.mono hb.size)⟩
    rw [HM.out]
end Go.Proofs.YtoinabapaeebfaaGreatDoor
