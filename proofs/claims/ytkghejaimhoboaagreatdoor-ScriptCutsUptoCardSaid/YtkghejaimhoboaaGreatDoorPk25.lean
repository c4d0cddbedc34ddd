/- Parts of the proof of ScriptCuts: contracts of functions that it reaches, and plain lemmas. No condition of their own. -/
import Derived.Test.YtkghejaimhoboaaGreatDoorPk15
import Derived.Test.YtkghejaimhoboaaGreatDoorPk17
import Derived.Test.YtkghejaimhoboaaGreatDoorPk24
import Derived.Test.YtkghejaimhoboaaGreatDoorPk19
set_option linter.unusedSimpArgs false
set_option linter.unusedVariables false
set_option maxRecDepth 100000
set_option maxHeartbeats 8000000
namespace Go.Proofs.YtkghejaimhoboaaGreatDoor
open Go.RowKit Go.Shelf
section
attribute [local go_sem] Oper.semAt_some
theorem wLm {P : Program} {w : World} {ops : Array Oper} {rest : List Oper} {op : Oper} {a : Act} {Q : Exit -> Act -> World -> Prop} (ty : TypeId) {x : Operand} (ho : op.op = .load ty x) {b j : Nat} {cs : List Value} (hx : a.eval x = .pointer (some ⟨b, j, none⟩)) (hr : w.rangeAt b j cs) {d : TypeDesc} (hu : P.underlying ty = some d)
  (h : wpList P ops Q rest (a.put op.dst (.agg cs.toArray)) w) (hgd : op.guard = none := by rfl) (hd : d.isRow = true := by rfl) (hi : (P.info? ty).map (·.size) = some cs.length := by kernel_rfl) : wpList P ops Q (op :: rest) a w := by
 refine wpList_plain hgd fun K hK => ?_
 have hl := run_loadAt_mid (P := P) w b j ty cs d hr hu hd hi
 unfold Oper.wp execOp
 simp only [ho, hx, Sem.run_bind, hl, Result.andThen_ok, Sem.run_pure]
 exact hK _ _ h
theorem Blk.mid {w : World} {b : Nat} {cs : Array Value} {T : TypeId} (h : Blk w b cs T) (pre mid post : List Value) (e : cs.toList = pre ++ mid ++ post) : w.rangeAt b pre.length mid := fun j v hj => by
 have hlt := (List.getElem?_eq_some_iff.1 hj).1
 rw [show (⟨b, pre.length + j, none⟩ : Addr) = ⟨b, pre.length + j, none⟩ from rfl, h.cell, <- Array.getElem?_toList, e, List.append_assoc, List.getElem?_append_right (by omega), Nat.add_sub_cancel_left, List.getElem?_append_left hlt]
 exact hj
theorem wBuild {P : Program} {w : World} {ops : Array Oper} {rest : List Oper} {op : Oper} {a : Act} {Q : Exit -> Act -> World -> Prop} (ty : TypeId) {parts : Array (Nat × Operand)} (ho : op.op = .build ty parts) (vs : Array (Nat × Value)) (hv : parts.toList.map (fun p => (p.1, a.eval p.2)) = vs.toList) (v : Value)
  (hr : ∀ W, (Instr.build ty vs).run P W = .ok v W) (h : wpList P ops Q rest (a.put op.dst v) w) (hgd : op.guard = none := by rfl) : wpList P ops Q (op :: rest) a w := by
 have hv : parts.map (fun p => (p.1, a.eval p.2)) = vs := by
  apply Array.ext'
  rw [Array.toList_map]
  exact hv
 refine wpList_plain hgd fun K hK => ?_
 unfold Oper.wp execOp
 simp only [ho, hv, Sem.run_bind, hr, Result.andThen_ok, Sem.run_pure]
 exact hK _ _ h
theorem build_say (c : Int) (p : Pk) (h : H3) (W : World) : (Instr.build 55 #[(1, .int .i64 c), (2, .agg (p.cells h).toArray)]).run Tryz.prog W = .ok (.agg (({ zTn 0 with conn := c, pk := p } : Tn).cells h ⟨none, 0, 0⟩).toArray) W := by kernel_rfl
def hdZ : Hd := ⟨none, 0, 0⟩
def h3Z : H3 := ⟨hdZ, hdZ, hdZ⟩
theorem Tn.one (t : Tn) (h : H3) (hp : Hd) : ∀ v ∈ (t.cells h hp).toArray.toList, v.oneCell' = true := by
 intro v hv
 simp only [Tn.cells, List.mem_cons, List.not_mem_nil, or_false] at hv
 rcases hv with h | h | h | h | h | h | h | h | h | h | h | h | h | h | h | h | h | h | h | h | h | h | h | h | h | h | h | h | h | h <;> (subst h; rfl)
theorem Pk.one (p : Pk) (h : H3) : ∀ v ∈ (p.cells h).toArray.toList, v.oneCell' = true := by
 intro v hv
 simp only [Pk.cells, List.mem_cons, List.not_mem_nil, or_false] at hv
 rcases hv with h | h | h | h | h | h | h | h | h | h | h | h | h | h | h | h | h | h | h | h | h | h | h | h <;> (subst h; rfl)
def zTc : Array Value := ((zTn 0).cells h3Z hdZ).toArray
theorem sc_has2 (t : Tn) (h : H3) (hp : Hd) (w : World) : Calls Tryz.prog 46 #[.agg (t.cells h hp).toArray] w fun e w' => e = .returned (.agg (({ zTn 0 with conn := t.conn } : Tn).cells h3Z hdZ).toArray) /\ Below w.heap.size w w' := by
 obtain ⟨cs, hcs⟩ : ∃ cs, (t.cells h hp).toArray = cs := ⟨_, rfl⟩
 have hB : Blk (w.alloc (.cells cs 55)) w.heap.size cs 55 := Blk.new _ _ _
 have hB2 : Blk ((w.alloc (.cells cs 55)).alloc (.cells zTc 55)) w.heap.size cs 55 := hB.alloc _
 have hZ : Blk ((w.alloc (.cells cs 55)).alloc (.cells zTc 55)) (w.heap.size + 1) zTc 55 := by
  have := Blk.new (w.alloc (.cells cs 55)) zTc 55
  simpa using this
 have hb2 : Below w.heap.size w ((w.alloc (.cells cs 55)).alloc (.cells zTc 55)) := ((Below.refl _ _).alloc (Nat.le_refl _) _).alloc (by simp) _
 (have k1 : ∀ o, ((w.alloc (.cells cs 55)).alloc o).cell? ⟨w.heap.size, 1, none⟩ = some (.int .i64 t.conn) := fun o => by rw [(hB.alloc o).cell, <- hcs]; rfl)
 have hone := hid (Tn.one ({ zTn 0 with conn := t.conn } : Tn) h3Z hdZ)
 rw [hcs]
 clear hcs hB hB2;replace hb2 := hid hb2;unfold zTc at *
 go_enter Tryz.func46, Tryz.ntmps46
 go_wp2_with (first
  | (refine wS 55 30 rfl (w.heap.size + 1) _ _ rfl rfl hZ rfl rfl hone.out ?_; intro w2 hw2 hr2)
  )
 refine bodyPost_ret (results_cell1 Tryz.results46 rfl (run_loadVar_blk hw2 55 Tryz.underlying55 rfl (by kernel_rfl))) rfl ⟨rfl, hb2.out.trans (hr2.below (by simp; omega) (by simp))⟩
theorem sc_has5 (t : Tn) (h : H3) (hp : Hd) (w : World) : Calls Tryz.prog 49 #[.agg (t.cells h hp).toArray] w fun e w' => e = .returned (.agg (({ zTn 0 with conn := 0 } : Tn).cells h3Z hdZ).toArray) /\ Below w.heap.size w w' := by
 obtain ⟨cs, hcs⟩ : ∃ cs, (t.cells h hp).toArray = cs := ⟨_, rfl⟩
 have hB : Blk (w.alloc (.cells cs 55)) w.heap.size cs 55 := Blk.new _ _ _
 have hB2 : Blk ((w.alloc (.cells cs 55)).alloc (.cells zTc 55)) w.heap.size cs 55 := hB.alloc _
 have hZ : Blk ((w.alloc (.cells cs 55)).alloc (.cells zTc 55)) (w.heap.size + 1) zTc 55 := by
  have := Blk.new (w.alloc (.cells cs 55)) zTc 55
  simpa using this
 have hb2 : Below w.heap.size w ((w.alloc (.cells cs 55)).alloc (.cells zTc 55)) := ((Below.refl _ _).alloc (Nat.le_refl _) _).alloc (by simp) _
 skip
 have hone := hid (Tn.one ({ zTn 0 with conn := 0 } : Tn) h3Z hdZ)
 rw [hcs]
 clear hcs hB hB2;replace hb2 := hid hb2;unfold zTc at *
 go_enter Tryz.func49, Tryz.ntmps49
 go_wp2_with (first
  | (refine wS 55 30 rfl (w.heap.size + 1) _ _ rfl rfl hZ rfl rfl hone.out ?_; intro w2 hw2 hr2)
  )
 refine bodyPost_ret (results_cell1 Tryz.results49 rfl (run_loadVar_blk hw2 55 Tryz.underlying55 rfl (by kernel_rfl))) rfl ⟨rfl, hb2.out.trans (hr2.below (by simp; omega) (by simp))⟩
theorem sc_has7 (t : Tn) (h : H3) (hp : Hd) (w : World) : Calls Tryz.prog 52 #[.agg (t.cells h hp).toArray] w fun e w' => e = .returned (.agg (({ zTn 0 with conn := t.conn, pk := t.pk } : Tn).cells h hdZ).toArray) /\ Below w.heap.size w w' := by
 obtain ⟨cs, hcs⟩ : ∃ cs, (t.cells h hp).toArray = cs := ⟨_, rfl⟩
 have hB : Blk (w.alloc (.cells cs 55)) w.heap.size cs 55 := Blk.new _ _ _
 have hB2 : Blk ((w.alloc (.cells cs 55)).alloc (.cells zTc 55)) w.heap.size cs 55 := hB.alloc _
 have hZ : Blk ((w.alloc (.cells cs 55)).alloc (.cells zTc 55)) (w.heap.size + 1) zTc 55 := by
  have := Blk.new (w.alloc (.cells cs 55)) zTc 55
  simpa using this
 have hb2 : Below w.heap.size w ((w.alloc (.cells cs 55)).alloc (.cells zTc 55)) := ((Below.refl _ _).alloc (Nat.le_refl _) _).alloc (by simp) _
 (have k1 : ∀ o, ((w.alloc (.cells cs 55)).alloc o).cell? ⟨w.heap.size, 1, none⟩ = some (.int .i64 t.conn) := fun o => by rw [(hB.alloc o).cell, <- hcs]; rfl); (have hpk := hB2.mid [.int .i64 t.kind, .int .i64 t.conn] (t.pk.cells h) [.string ⟨t.bytes.toArray⟩, .int .i64 t.arm, .int .i64 t.n, .slice hp.a hp.n hp.c] (by rw [<- hcs]; rfl))
 have hone := hid (Tn.one ({ zTn 0 with conn := t.conn, pk := t.pk } : Tn) h hdZ)
 rw [hcs]
 clear hcs hB hB2;replace hb2 := hid hb2;unfold zTc at *
 go_enter Tryz.func52, Tryz.ntmps52
 go_wp2_with (first
  | (refine wS 55 30 rfl (w.heap.size + 1) _ _ rfl rfl hZ rfl rfl hone.out ?_; intro w2 hw2 hr2)
  | (refine wLm 52 rfl rfl hpk Tryz.underlying52 ?_) | (refine wBuild 55 rfl #[(1, .int .i64 t.conn), (2, .agg (t.pk.cells h).toArray)] rfl _ (build_say t.conn t.pk h) ?_))
 refine bodyPost_ret (results_cell1 Tryz.results52 rfl (run_loadVar_blk hw2 55 Tryz.underlying55 rfl (by kernel_rfl))) rfl ⟨rfl, hb2.out.trans (hr2.below (by simp; omega) (by simp))⟩
theorem sc_has11 (t : Tn) (h : H3) (hp : Hd) (w : World) : Calls Tryz.prog 59 #[.agg (t.cells h hp).toArray] w fun e w' => e = .returned (.agg (({ zTn 0 with conn := t.conn, bytes := t.bytes } : Tn).cells h3Z hdZ).toArray) /\ Below w.heap.size w w' := by
 obtain ⟨cs, hcs⟩ : ∃ cs, (t.cells h hp).toArray = cs := ⟨_, rfl⟩
 have hB : Blk (w.alloc (.cells cs 55)) w.heap.size cs 55 := Blk.new _ _ _
 have hB2 : Blk ((w.alloc (.cells cs 55)).alloc (.cells zTc 55)) w.heap.size cs 55 := hB.alloc _
 have hZ : Blk ((w.alloc (.cells cs 55)).alloc (.cells zTc 55)) (w.heap.size + 1) zTc 55 := by
  have := Blk.new (w.alloc (.cells cs 55)) zTc 55
  simpa using this
 have hb2 : Below w.heap.size w ((w.alloc (.cells cs 55)).alloc (.cells zTc 55)) := ((Below.refl _ _).alloc (Nat.le_refl _) _).alloc (by simp) _
 (have k1 : ∀ o, ((w.alloc (.cells cs 55)).alloc o).cell? ⟨w.heap.size, 1, none⟩ = some (.int .i64 t.conn) := fun o => by rw [(hB.alloc o).cell, <- hcs]; rfl); (have k26 : ∀ o, ((w.alloc (.cells cs 55)).alloc o).cell? ⟨w.heap.size, 26, none⟩ = some (.string ⟨t.bytes.toArray⟩) := fun o => by rw [(hB.alloc o).cell, <- hcs]; rfl)
 have hone := hid (Tn.one ({ zTn 0 with conn := t.conn, bytes := t.bytes } : Tn) h3Z hdZ)
 rw [hcs]
 clear hcs hB hB2;replace hb2 := hid hb2;unfold zTc at *
 go_enter Tryz.func59, Tryz.ntmps59
 go_wp2_with (first
  | (refine wS 55 30 rfl (w.heap.size + 1) _ _ rfl rfl hZ rfl rfl hone.out ?_; intro w2 hw2 hr2)
  )
 refine bodyPost_ret (results_cell1 Tryz.results59 rfl (run_loadVar_blk hw2 55 Tryz.underlying55 rfl (by kernel_rfl))) rfl ⟨rfl, hb2.out.trans (hr2.below (by simp; omega) (by simp))⟩
theorem sc_has15 (t : Tn) (h : H3) (hp : Hd) (w : World) : Calls Tryz.prog 63 #[.agg (t.cells h hp).toArray] w fun e w' => e = .returned (.agg (({ zTn 0 with arm := t.arm, n := t.n } : Tn).cells h3Z hdZ).toArray) /\ Below w.heap.size w w' := by
 obtain ⟨cs, hcs⟩ : ∃ cs, (t.cells h hp).toArray = cs := ⟨_, rfl⟩
 have hB : Blk (w.alloc (.cells cs 55)) w.heap.size cs 55 := Blk.new _ _ _
 have hB2 : Blk ((w.alloc (.cells cs 55)).alloc (.cells zTc 55)) w.heap.size cs 55 := hB.alloc _
 have hZ : Blk ((w.alloc (.cells cs 55)).alloc (.cells zTc 55)) (w.heap.size + 1) zTc 55 := by
  have := Blk.new (w.alloc (.cells cs 55)) zTc 55
  simpa using this
 have hb2 : Below w.heap.size w ((w.alloc (.cells cs 55)).alloc (.cells zTc 55)) := ((Below.refl _ _).alloc (Nat.le_refl _) _).alloc (by simp) _
 (have k27 : ∀ o, ((w.alloc (.cells cs 55)).alloc o).cell? ⟨w.heap.size, 27, none⟩ = some (.int .i64 t.arm) := fun o => by rw [(hB.alloc o).cell, <- hcs]; rfl); (have k28 : ∀ o, ((w.alloc (.cells cs 55)).alloc o).cell? ⟨w.heap.size, 28, none⟩ = some (.int .i64 t.n) := fun o => by rw [(hB.alloc o).cell, <- hcs]; rfl)
 have hone := hid (Tn.one ({ zTn 0 with arm := t.arm, n := t.n } : Tn) h3Z hdZ)
 rw [hcs]
 clear hcs hB hB2;replace hb2 := hid hb2;unfold zTc at *
 go_enter Tryz.func63, Tryz.ntmps63
 go_wp2_with (first
  | (refine wS 55 30 rfl (w.heap.size + 1) _ _ rfl rfl hZ rfl rfl hone.out ?_; intro w2 hw2 hr2)
  )
 refine bodyPost_ret (results_cell1 Tryz.results63 rfl (run_loadVar_blk hw2 55 Tryz.underlying55 rfl (by kernel_rfl))) rfl ⟨rfl, hb2.out.trans (hr2.below (by simp; omega) (by simp))⟩
theorem sc_has19 (t : Tn) (h : H3) (hp : Hd) (w : World) : Calls Tryz.prog 70 #[.agg (t.cells h hp).toArray] w fun e w' => e = .returned (.agg (({ zTn 0 with picks := t.picks } : Tn).cells h3Z hp).toArray) /\ Below w.heap.size w w' := by
 obtain ⟨cs, hcs⟩ : ∃ cs, (t.cells h hp).toArray = cs := ⟨_, rfl⟩
 have hB : Blk (w.alloc (.cells cs 55)) w.heap.size cs 55 := Blk.new _ _ _
 have hB2 : Blk ((w.alloc (.cells cs 55)).alloc (.cells zTc 55)) w.heap.size cs 55 := hB.alloc _
 have hZ : Blk ((w.alloc (.cells cs 55)).alloc (.cells zTc 55)) (w.heap.size + 1) zTc 55 := by
  have := Blk.new (w.alloc (.cells cs 55)) zTc 55
  simpa using this
 have hb2 : Below w.heap.size w ((w.alloc (.cells cs 55)).alloc (.cells zTc 55)) := ((Below.refl _ _).alloc (Nat.le_refl _) _).alloc (by simp) _
 (have k29 : ∀ o, ((w.alloc (.cells cs 55)).alloc o).cell? ⟨w.heap.size, 29, none⟩ = some (.slice hp.a hp.n hp.c) := fun o => by rw [(hB.alloc o).cell, <- hcs]; rfl)
 have hone := hid (Tn.one ({ zTn 0 with picks := t.picks } : Tn) h3Z hp)
 rw [hcs]
 clear hcs hB hB2;replace hb2 := hid hb2;unfold zTc at *
 go_enter Tryz.func70, Tryz.ntmps70
 go_wp2_with (first
  | (refine wS 55 30 rfl (w.heap.size + 1) _ _ rfl rfl hZ rfl rfl hone.out ?_; intro w2 hw2 hr2)
  )
 refine bodyPost_ret (results_cell1 Tryz.results70 rfl (run_loadVar_blk hw2 55 Tryz.underlying55 rfl (by kernel_rfl))) rfl ⟨rfl, hb2.out.trans (hr2.below (by simp; omega) (by simp))⟩
end
section
attribute [local go_sem] Oper.semAt_some
theorem sc_may1 (t : Tn) (h : H3) (hp : Hd) (w : World) : Calls Tryz.prog 45 #[.agg (t.cells h hp).toArray] w fun e w' => e = .returned (.bool (decide (0 <= t.conn) && decide (t.conn <= 65535))) /\ Below w.heap.size w w' := by
 obtain ⟨cs, hcs⟩ : ∃ cs, (t.cells h hp).toArray = cs := ⟨_, rfl⟩
 have hB : Blk (w.alloc (.cells cs 55)) w.heap.size cs 55 := Blk.new _ _ _
 have k1 : (w.alloc (.cells cs 55)).cell? ⟨w.heap.size, 1, none⟩ = some (.int .i64 t.conn) := by rw [hB.cell, <- hcs]; rfl
 have hb : Below w.heap.size w (w.alloc (.cells cs 55)) := (Below.refl _ _).alloc (Nat.le_refl _) _
 replace hb := hid hb;rw [hcs]
 clear hcs hB;obtain ⟨z, hz⟩ : ∃ z, t.conn = z := ⟨_, rfl⟩
 rw [hz] at k1 ⊢
 clear hz;by_cases h1 : 0 <= z
 ·by_cases h2 : z <= 65535 <;>
  ·go_enter Tryz.func45, Tryz.ntmps45
   go_wp2
   go_ret
   exact ⟨by simp [h1, h2], hb.out⟩
 ·go_enter Tryz.func45, Tryz.ntmps45
  go_wp2
  go_ret
  exact ⟨by rw [show decide (0 <= z) = false from decide_eq_false (by omega), Bool.false_and]; rfl, hb.out⟩
theorem sc_write3 (a b : Array Value) (w : World) : Calls Tryz.prog 47 #[.agg a, .agg b] w fun e w' => e = .returned (.tuple #[]) /\ Below w.heap.size w w' := by
 have hb : Below w.heap.size w ((w.alloc (.cells a 102)).alloc (.cells b 55)) := ((Below.refl _ _).alloc (Nat.le_refl _) _).alloc (by simp) _
 go_enter Tryz.func47, Tryz.ntmps47
 go_wp2
 go_end0
 exact ⟨rfl, hb⟩
theorem sc_read4 (a : Array Value) (p : Value) (w : World) : Calls Tryz.prog 48 #[.agg a, p] w fun e w' => e = .returned (.tuple #[]) /\ Below w.heap.size w w' := by
 have hb : Below w.heap.size w (w.alloc (.cells a 61)) := (Below.refl _ _).alloc (Nat.le_refl _) _
 go_enter Tryz.func48, Tryz.ntmps48
 go_wp2
 go_end0
 exact ⟨rfl, hb⟩
end
section
attribute [local go_sem] Oper.semAt_some
def iVl (z : Int) : Value := .int .i64 z
def sVl (s : List UInt8) : Value := .string ⟨s.toArray⟩
def wVl (x : WantV) : Value := .agg #[.string ⟨x.filter.toArray⟩, .int .i64 x.qos]
theorem neq_i (x y : Int) (W : World) : (binOp .neq 3 (iVl x) (iVl y)).run Tryz.prog W = .ok (.bool (!decide (x = y))) W := by
 unfold iVl
 go_simp;by_cases h : x = y <;> simp [h]
theorem neq_s (x y : List UInt8) (W : World) : (binOp .neq 9 (sVl x) (sVl y)).run Tryz.prog W = .ok (.bool (!decide (x = y))) W := by
 unfold sVl
 go_simp;by_cases h : x = y <;> simp [h]
theorem WantV.eqs (x y : WantV) : x = y ↔ x.filter = y.filter /\ x.qos = y.qos := by
 obtain ⟨a, b⟩ := x
 obtain ⟨c, d⟩ := y
 simp
instance : DecidableEq WantV := fun x y => decidable_of_iff _ (WantV.eqs x y).symm
theorem neq_w (x y : WantV) (W : World) : (binOp .neq 169 (wVl x) (wVl y)).run Tryz.prog W = .ok (.bool (!decide (x = y))) W := by
 obtain ⟨a, b⟩ := x
 obtain ⟨c, d⟩ := y
 unfold wVl
 go_simp;by_cases h1 : a = c <;> by_cases h2 : b = d <;> simp [h1, h2]
theorem gu_i (x y : Int) (s1 s2 : Operand) (W : World) : (eqGuard .neq 3 s1 s2 (iVl x) (iVl y)).run Tryz.prog W = .ok () W := by
 unfold iVl
 go_simp
theorem gu_s (x y : List UInt8) (s1 s2 : Operand) (W : World) : (eqGuard .neq 9 s1 s2 (sVl x) (sVl y)).run Tryz.prog W = .ok () W := by
 unfold sVl
 go_simp
theorem gu_w (x y : WantV) (s1 s2 : Operand) (W : World) : (eqGuard .neq 169 s1 s2 (wVl x) (wVl y)).run Tryz.prog W = .ok () W := by
 unfold wVl
 go_simp
theorem sl_EqualI {w : World} {a1 a2 : Option Addr} {n1 n2 c1 c2 : Nat} {xs ys : List Int} (h1 : LsAt iCl 1 w a1 n1 c1 xs) (h2 : LsAt iCl 1 w a2 n2 c2 ys) :
  Calls Tryz.prog 82 #[.slice a1 n1 c1, .slice a2 n2 c2] w fun e w' => ∃ b : Bool, e = .returned (.bool b) /\ (b = true ↔ xs = ys) /\ Below w.heap.size w w' := by
 have hn1 := hid h1.len;have hn2 := hid h2.len;have V1 := hid h1;have V2 := hid h2;have hm : n1 <= 9223372036854775807 := by have := h1.le; have := h1.max; unfold maxLen at this; omega
 have hm2 : n2 <= 9223372036854775807 := by have := h2.le; have := h2.max; unfold maxLen at this; omega
 clear h1 h2;by_cases hne : n1 = n2
 ·subst hne
  clear hm2;have dn : ((n1 : Int) == (n1 : Int)) = true := by simp
  obtain ⟨zn, hzn⟩ : ∃ zn : Int, zn = (n1 : Int) := ⟨_, rfl⟩
  go_enter Tryz.func82, Tryz.ntmps82
  go_wp2_with fail
  go_loopw [13] (fun i wr => ∃ k : Nat, i = .int .i64 k /\ k <= n1 /\ Hid (Below w.heap.size w wr) /\ Hid (∀ j, j < k -> xs[j]? = ys[j]?)) (fun i _ => n1 - (intOf i).toNat)
  case atStart => exact ⟨0, rfl, Nat.zero_le _, hid (Below.refl _ _), hid fun j h => absurd h (by omega)⟩
  case round =>
   obtain ⟨k, rfl, hk1, hbr, hall⟩ := hrel
   rcases Nat.lt_or_ge k n1 with hlt | hge
   ·have dk : decide ((k : Int) < (n1 : Int)) = true := decide_eq_true (by omega)
    obtain ⟨x, hx⟩ : ∃ x, xs[k]? = some x := ⟨_, List.getElem?_eq_getElem (by rw [hn1.out]; omega)⟩
    obtain ⟨y, hy⟩ : ∃ y, ys[k]? = some y := ⟨_, List.getElem?_eq_getElem (by rw [hn2.out]; omega)⟩
    obtain ⟨g1, o1, ha1, hr1⟩ := V1.out.range hx
    obtain ⟨g2, o2, ha2, hr2⟩ := V2.out.range hy
    have hc1 := hr1 _ hbr.out.drew
    have hc2 := hr2 _ hbr.out.drew
    subst ha1;subst ha2;have hbw := hid hbr.out.drew;obtain ⟨bv, hbv⟩ : ∃ b, decide (x = y) = b := ⟨_, rfl⟩
    have hq := neq_i x y
    have hg := gu_i x y
    rw [hbv] at hq
    obtain ⟨xv, hxv⟩ : ∃ v, iVl x = v := ⟨_, rfl⟩
    obtain ⟨yv, hyv⟩ : ∃ v, iVl y = v := ⟨_, rfl⟩
    have hc1 : wr.drew.cell? ⟨g1, o1 + k, none⟩ = some xv := by rw [<- hxv]; simpa using hc1 0 (iVl x) rfl
    have hc2 : wr.drew.cell? ⟨g2, o2 + k, none⟩ = some yv := by rw [<- hyv]; simpa using hc2 0 (iVl y) rfl
    rw [hxv, hyv] at hq hg
    replace hxv := hid hxv;replace hyv := hid hyv;replace hx := hid hx;replace hy := hid hy;replace hbv := hid hbv;clear hr1 hr2 hbr;go_wp2_with fail
    refine regionQ [(1000, fun w' => w'.cell? ⟨g1, o1 + k, none⟩ = some xv), (1000, fun w' => w'.cell? ⟨g2, o2 + k, none⟩ = some yv)] (by kernel_rfl) ⟨hc1, hc2, trivial⟩ fun KQ hKQ => ?_
    refine tQ [0, 1, 2] ?_;refine lR 3 0 rfl rfl rfl rfl (fun w' hf => by (have k0 := hf; go_simp <;> with_reducible rfl)) ?_
    simp only [PT];refine tQ [4, 5, 6] ?_;refine lR 7 1 rfl rfl rfl rfl (fun w' hf => by (have k0 := hf; go_simp <;> with_reducible rfl)) ?_
    simp only [PT];refine tQ [8] ?_;refine dQ (hKQ.out _ _ ?_);clear hKQ KQ;rcases bv with _ | _
    ·go_wp2_with fail
     go_ret
     refine ⟨false, rfl, ⟨fun h => (by cases h), fun h => ?_⟩, hbw.out⟩
     subst h;have h7 := hx.out.symm.trans hy.out
     cases h7
     have h8 := hbv.out
     simp at h8
    ·go_wp2_with fail
     go_roundw
     case rel =>
      refine ⟨k + 1, by go_num, by omega, hbw, hid fun j hj => ?_⟩
      by_cases hjk : j = k
      ·subst hjk
       rw [hx.out, hy.out, of_decide_eq_true hbv.out]
      ·exact hall.out j (by omega)
     case measure => simp [intOf]; omega
   ·obtain rfl : k = n1 := by omega
    have dk : decide ((k : Int) < (k : Int)) = false := by simp
    go_wp2_with fail
    go_ret
    refine ⟨true, rfl, ⟨fun _ => ?_, fun _ => rfl⟩, hbr.out⟩
    apply List.ext_getElem?
    intro j
    rcases Nat.lt_or_ge j k with h7 | h7
    ·exact hall.out j h7
    ·rw [List.getElem?_eq_none (by rw [hn1.out]; exact h7), List.getElem?_eq_none (by rw [hn2.out]; exact h7)]
 ·have dn : ((n1 : Int) == (n2 : Int)) = false := by simpa using fun h => hne (by omega)
  go_enter Tryz.func82, Tryz.ntmps82
  go_wp2_with fail
  go_ret
  refine ⟨false, rfl, ⟨fun h => (by cases h), fun h => absurd (by rw [<- hn1.out, <- hn2.out, h]) hne⟩, Below.refl _ _⟩
theorem sl_EqualS {w : World} {a1 a2 : Option Addr} {n1 n2 c1 c2 : Nat} {xs ys : List (List UInt8)} (h1 : LsAt sCl 1 w a1 n1 c1 xs) (h2 : LsAt sCl 1 w a2 n2 c2 ys) :
  Calls Tryz.prog 106 #[.slice a1 n1 c1, .slice a2 n2 c2] w fun e w' => ∃ b : Bool, e = .returned (.bool b) /\ (b = true ↔ xs = ys) /\ Below w.heap.size w w' := by
 have hn1 := hid h1.len;have hn2 := hid h2.len;have V1 := hid h1;have V2 := hid h2;have hm : n1 <= 9223372036854775807 := by have := h1.le; have := h1.max; unfold maxLen at this; omega
 have hm2 : n2 <= 9223372036854775807 := by have := h2.le; have := h2.max; unfold maxLen at this; omega
 clear h1 h2;by_cases hne : n1 = n2
 ·subst hne
  clear hm2;have dn : ((n1 : Int) == (n1 : Int)) = true := by simp
  obtain ⟨zn, hzn⟩ : ∃ zn : Int, zn = (n1 : Int) := ⟨_, rfl⟩
  go_enter Tryz.func106, Tryz.ntmps106
  go_wp2_with fail
  go_loopw [13] (fun i wr => ∃ k : Nat, i = .int .i64 k /\ k <= n1 /\ Hid (Below w.heap.size w wr) /\ Hid (∀ j, j < k -> xs[j]? = ys[j]?)) (fun i _ => n1 - (intOf i).toNat)
  case atStart => exact ⟨0, rfl, Nat.zero_le _, hid (Below.refl _ _), hid fun j h => absurd h (by omega)⟩
  case round =>
   obtain ⟨k, rfl, hk1, hbr, hall⟩ := hrel
   rcases Nat.lt_or_ge k n1 with hlt | hge
   ·have dk : decide ((k : Int) < (n1 : Int)) = true := decide_eq_true (by omega)
    obtain ⟨x, hx⟩ : ∃ x, xs[k]? = some x := ⟨_, List.getElem?_eq_getElem (by rw [hn1.out]; omega)⟩
    obtain ⟨y, hy⟩ : ∃ y, ys[k]? = some y := ⟨_, List.getElem?_eq_getElem (by rw [hn2.out]; omega)⟩
    obtain ⟨g1, o1, ha1, hr1⟩ := V1.out.range hx
    obtain ⟨g2, o2, ha2, hr2⟩ := V2.out.range hy
    have hc1 := hr1 _ hbr.out.drew
    have hc2 := hr2 _ hbr.out.drew
    subst ha1;subst ha2;have hbw := hid hbr.out.drew;obtain ⟨bv, hbv⟩ : ∃ b, decide (x = y) = b := ⟨_, rfl⟩
    have hq := neq_s x y
    have hg := gu_s x y
    rw [hbv] at hq
    obtain ⟨xv, hxv⟩ : ∃ v, sVl x = v := ⟨_, rfl⟩
    obtain ⟨yv, hyv⟩ : ∃ v, sVl y = v := ⟨_, rfl⟩
    have hc1 : wr.drew.cell? ⟨g1, o1 + k, none⟩ = some xv := by rw [<- hxv]; simpa using hc1 0 (sVl x) rfl
    have hc2 : wr.drew.cell? ⟨g2, o2 + k, none⟩ = some yv := by rw [<- hyv]; simpa using hc2 0 (sVl y) rfl
    rw [hxv, hyv] at hq hg
    replace hxv := hid hxv;replace hyv := hid hyv;replace hx := hid hx;replace hy := hid hy;replace hbv := hid hbv;clear hr1 hr2 hbr;go_wp2_with fail
    refine regionQ [(1000, fun w' => w'.cell? ⟨g1, o1 + k, none⟩ = some xv), (1000, fun w' => w'.cell? ⟨g2, o2 + k, none⟩ = some yv)] (by kernel_rfl) ⟨hc1, hc2, trivial⟩ fun KQ hKQ => ?_
    refine tQ [0, 1, 2] ?_;refine lR 3 0 rfl rfl rfl rfl (fun w' hf => by (have k0 := hf; go_simp <;> with_reducible rfl)) ?_
    simp only [PT];refine tQ [4, 5, 6] ?_;refine lR 7 1 rfl rfl rfl rfl (fun w' hf => by (have k0 := hf; go_simp <;> with_reducible rfl)) ?_
    simp only [PT];refine tQ [8] ?_;refine dQ (hKQ.out _ _ ?_);clear hKQ KQ;rcases bv with _ | _
    ·go_wp2_with fail
     go_ret
     refine ⟨false, rfl, ⟨fun h => (by cases h), fun h => ?_⟩, hbw.out⟩
     subst h;have h7 := hx.out.symm.trans hy.out
     cases h7
     have h8 := hbv.out
     simp at h8
    ·go_wp2_with fail
     go_roundw
     case rel =>
      refine ⟨k + 1, by go_num, by omega, hbw, hid fun j hj => ?_⟩
      by_cases hjk : j = k
      ·subst hjk
       rw [hx.out, hy.out, of_decide_eq_true hbv.out]
      ·exact hall.out j (by omega)
     case measure => simp [intOf]; omega
   ·obtain rfl : k = n1 := by omega
    have dk : decide ((k : Int) < (k : Int)) = false := by simp
    go_wp2_with fail
    go_ret
    refine ⟨true, rfl, ⟨fun _ => ?_, fun _ => rfl⟩, hbr.out⟩
    apply List.ext_getElem?
    intro j
    rcases Nat.lt_or_ge j k with h7 | h7
    ·exact hall.out j h7
    ·rw [List.getElem?_eq_none (by rw [hn1.out]; exact h7), List.getElem?_eq_none (by rw [hn2.out]; exact h7)]
 ·have dn : ((n1 : Int) == (n2 : Int)) = false := by simpa using fun h => hne (by omega)
  go_enter Tryz.func106, Tryz.ntmps106
  go_wp2_with fail
  go_ret
  refine ⟨false, rfl, ⟨fun h => (by cases h), fun h => absurd (by rw [<- hn1.out, <- hn2.out, h]) hne⟩, Below.refl _ _⟩
theorem sl_EqualW {w : World} {a1 a2 : Option Addr} {n1 n2 c1 c2 : Nat} {xs ys : List WantV} (h1 : LsAt WantV.cl 2 w a1 n1 c1 xs) (h2 : LsAt WantV.cl 2 w a2 n2 c2 ys) :
  Calls Tryz.prog 105 #[.slice a1 n1 c1, .slice a2 n2 c2] w fun e w' => ∃ b : Bool, e = .returned (.bool b) /\ (b = true ↔ xs = ys) /\ Below w.heap.size w w' := by
 have hn1 := hid h1.len;have hn2 := hid h2.len;have V1 := hid h1;have V2 := hid h2;have hm : n1 <= 9223372036854775807 := by have := h1.le; have := h1.max; unfold maxLen at this; omega
 have hm2 : n2 <= 9223372036854775807 := by have := h2.le; have := h2.max; unfold maxLen at this; omega
 clear h1 h2;by_cases hne : n1 = n2
 ·subst hne
  clear hm2;have dn : ((n1 : Int) == (n1 : Int)) = true := by simp
  obtain ⟨zn, hzn⟩ : ∃ zn : Int, zn = (n1 : Int) := ⟨_, rfl⟩
  go_enter Tryz.func105, Tryz.ntmps105
  go_wp2_with fail
  go_loopw [13] (fun i wr => ∃ k : Nat, i = .int .i64 k /\ k <= n1 /\ Hid (Below w.heap.size w wr) /\ Hid (∀ j, j < k -> xs[j]? = ys[j]?)) (fun i _ => n1 - (intOf i).toNat)
  case atStart => exact ⟨0, rfl, Nat.zero_le _, hid (Below.refl _ _), hid fun j h => absurd h (by omega)⟩
  case round =>
   obtain ⟨k, rfl, hk1, hbr, hall⟩ := hrel
   rcases Nat.lt_or_ge k n1 with hlt | hge
   ·have dk : decide ((k : Int) < (n1 : Int)) = true := decide_eq_true (by omega)
    obtain ⟨x, hx⟩ : ∃ x, xs[k]? = some x := ⟨_, List.getElem?_eq_getElem (by rw [hn1.out]; omega)⟩
    obtain ⟨y, hy⟩ : ∃ y, ys[k]? = some y := ⟨_, List.getElem?_eq_getElem (by rw [hn2.out]; omega)⟩
    obtain ⟨g1, o1, ha1, hr1⟩ := V1.out.range hx
    obtain ⟨g2, o2, ha2, hr2⟩ := V2.out.range hy
    have hc1 := hr1 _ hbr.out.drew
    have hc2 := hr2 _ hbr.out.drew
    subst ha1;subst ha2;have hbw := hid hbr.out.drew;obtain ⟨bv, hbv⟩ : ∃ b, decide (x = y) = b := ⟨_, rfl⟩
    have hq := neq_w x y
    have hg := gu_w x y
    rw [hbv] at hq
    obtain ⟨xv, hxv⟩ : ∃ v, wVl x = v := ⟨_, rfl⟩
    obtain ⟨yv, hyv⟩ : ∃ v, wVl y = v := ⟨_, rfl⟩
    skip
    skip
    rw [hxv, hyv] at hq hg
    replace hxv := hid hxv;replace hyv := hid hyv;replace hx := hid hx;replace hy := hid hy;replace hbv := hid hbv;clear hr1 hr2 hbr;go_wp2_with fail
    refine regionQ [(1000, fun w' => w'.rangeAt g1 (o1 + k * 2) x.cl), (1000, fun w' => w'.rangeAt g2 (o2 + k * 2) y.cl)] (by kernel_rfl) ⟨hc1, hc2, trivial⟩ fun KQ hKQ => ?_
    refine tQ [0, 1, 2] ?_;refine lR 3 0 rfl rfl rfl rfl (v := xv) (fun w' hf => by rw [<- hxv.out]; exact run_loadAt_mid w' _ _ 169 x.cl _ hf Tryz.underlying169 rfl (by kernel_rfl)) ?_
    try simp only [PT]
    refine tQ [4, 5, 6] ?_;refine lR 7 1 rfl rfl rfl rfl (v := yv) (fun w' hf => by rw [<- hyv.out]; exact run_loadAt_mid w' _ _ 169 y.cl _ hf Tryz.underlying169 rfl (by kernel_rfl)) ?_
    try simp only [PT]
    refine tQ [8] ?_;refine dQ (hKQ.out _ _ ?_);clear hKQ KQ;rcases bv with _ | _
    ·go_wp2_with fail
     go_ret
     refine ⟨false, rfl, ⟨fun h => (by cases h), fun h => ?_⟩, hbw.out⟩
     subst h;have h7 := hx.out.symm.trans hy.out
     cases h7
     have h8 := hbv.out
     simp at h8
    ·go_wp2_with fail
     go_roundw
     case rel =>
      refine ⟨k + 1, by go_num, by omega, hbw, hid fun j hj => ?_⟩
      by_cases hjk : j = k
      ·subst hjk
       rw [hx.out, hy.out, of_decide_eq_true hbv.out]
      ·exact hall.out j (by omega)
     case measure => simp [intOf]; omega
   ·obtain rfl : k = n1 := by omega
    have dk : decide ((k : Int) < (k : Int)) = false := by simp
    go_wp2_with fail
    go_ret
    refine ⟨true, rfl, ⟨fun _ => ?_, fun _ => rfl⟩, hbr.out⟩
    apply List.ext_getElem?
    intro j
    rcases Nat.lt_or_ge j k with h7 | h7
    ·exact hall.out j h7
    ·rw [List.getElem?_eq_none (by rw [hn1.out]; exact h7), List.getElem?_eq_none (by rw [hn2.out]; exact h7)]
 ·have dn : ((n1 : Int) == (n2 : Int)) = false := by simpa using fun h => hne (by omega)
  go_enter Tryz.func105, Tryz.ntmps105
  go_wp2_with fail
  go_ret
  refine ⟨false, rfl, ⟨fun h => (by cases h), fun h => absurd (by rw [<- hn1.out, <- hn2.out, h]) hne⟩, Below.refl _ _⟩
theorem r28_SamePicks {w : World} {a1 a2 : Option Addr} {n1 n2 c1 c2 : Nat} {xs ys : List Int} (h1 : LsAt iCl 1 w a1 n1 c1 xs) (h2 : LsAt iCl 1 w a2 n2 c2 ys) :
  Calls Tryz.prog 77 #[.slice a1 n1 c1, .slice a2 n2 c2] w fun e w' => ∃ b : Bool, e = .returned (.bool b) /\ (b = true ↔ xs = ys) /\ Below w.heap.size w w' := by
 have hn1 := hid h1.len;have hn2 := hid h2.len;have V1 := hid h1;have V2 := hid h2;have hm : n1 <= 9223372036854775807 := by have := h1.le; have := h1.max; unfold maxLen at this; omega
 have hm2 : n2 <= 9223372036854775807 := by have := h2.le; have := h2.max; unfold maxLen at this; omega
 clear h1 h2;by_cases hne : n1 = n2
 ·subst hne
  clear hm2;have dn : ((n1 : Int) == (n1 : Int)) = true := by simp
  obtain ⟨zn, hzn⟩ : ∃ zn : Int, zn = (n1 : Int) := ⟨_, rfl⟩
  go_enter Tryz.func77, Tryz.ntmps77
  go_wp2_with fail
  go_loopw [5] (fun i wr => ∃ k : Nat, i = .int .i64 k /\ k <= n1 /\ Hid (Below w.heap.size w wr) /\ Hid (∀ j, j < k -> xs[j]? = ys[j]?)) (fun i _ => n1 - (intOf i).toNat)
  case atStart => exact ⟨0, rfl, Nat.zero_le _, hid (Below.refl _ _), hid fun j h => absurd h (by omega)⟩
  case round =>
   obtain ⟨k, rfl, hk1, hbr, hall⟩ := hrel
   rcases Nat.lt_or_ge k n1 with hlt | hge
   ·have dk : decide ((k : Int) < (n1 : Int)) = true := decide_eq_true (by omega)
    obtain ⟨x, hx⟩ : ∃ x, xs[k]? = some x := ⟨_, List.getElem?_eq_getElem (by rw [hn1.out]; omega)⟩
    obtain ⟨y, hy⟩ : ∃ y, ys[k]? = some y := ⟨_, List.getElem?_eq_getElem (by rw [hn2.out]; omega)⟩
    obtain ⟨g1, o1, ha1, hr1⟩ := V1.out.range hx
    obtain ⟨g2, o2, ha2, hr2⟩ := V2.out.range hy
    have hc1 := hr1 _ hbr.out.drew
    have hc2 := hr2 _ hbr.out.drew
    subst ha1;subst ha2;have hbw := hid hbr.out.drew;obtain ⟨bv, hbv⟩ : ∃ b, decide (x = y) = b := ⟨_, rfl⟩
    have hq := neq_i x y
    have hg := gu_i x y
    rw [hbv] at hq
    obtain ⟨xv, hxv⟩ : ∃ v, iVl x = v := ⟨_, rfl⟩
    obtain ⟨yv, hyv⟩ : ∃ v, iVl y = v := ⟨_, rfl⟩
    have hc1 : wr.drew.cell? ⟨g1, o1 + k, none⟩ = some xv := by rw [<- hxv]; simpa using hc1 0 (iVl x) rfl
    have hc2 : wr.drew.cell? ⟨g2, o2 + k, none⟩ = some yv := by rw [<- hyv]; simpa using hc2 0 (iVl y) rfl
    rw [hxv, hyv] at hq hg
    replace hxv := hid hxv;replace hyv := hid hyv;replace hx := hid hx;replace hy := hid hy;replace hbv := hid hbv;clear hr1 hr2 hbr;go_wp2_with fail
    refine regionQ [(1000, fun w' => w'.cell? ⟨g1, o1 + k, none⟩ = some xv), (1000, fun w' => w'.cell? ⟨g2, o2 + k, none⟩ = some yv)] (by kernel_rfl) ⟨hc1, hc2, trivial⟩ fun KQ hKQ => ?_
    refine tQ [0, 1, 2] ?_;refine lR 3 0 rfl rfl rfl rfl (fun w' hf => by (have k0 := hf; go_simp <;> with_reducible rfl)) ?_
    simp only [PT];refine tQ [4, 5, 6] ?_;refine lR 7 1 rfl rfl rfl rfl (fun w' hf => by (have k0 := hf; go_simp <;> with_reducible rfl)) ?_
    simp only [PT];refine tQ [8] ?_;refine dQ (hKQ.out _ _ ?_);clear hKQ KQ;rcases bv with _ | _
    ·go_wp2_with fail
     go_ret
     refine ⟨false, rfl, ⟨fun h => (by cases h), fun h => ?_⟩, hbw.out⟩
     subst h;have h7 := hx.out.symm.trans hy.out
     cases h7
     have h8 := hbv.out
     simp at h8
    ·go_wp2_with fail
     go_roundw
     case rel =>
      refine ⟨k + 1, by go_num, by omega, hbw, hid fun j hj => ?_⟩
      by_cases hjk : j = k
      ·subst hjk
       rw [hx.out, hy.out, of_decide_eq_true hbv.out]
      ·exact hall.out j (by omega)
     case measure => simp [intOf]; omega
   ·obtain rfl : k = n1 := by omega
    have dk : decide ((k : Int) < (k : Int)) = false := by simp
    go_wp2_with fail
    go_ret
    refine ⟨true, rfl, ⟨fun _ => ?_, fun _ => rfl⟩, hbr.out⟩
    apply List.ext_getElem?
    intro j
    rcases Nat.lt_or_ge j k with h7 | h7
    ·exact hall.out j h7
    ·rw [List.getElem?_eq_none (by rw [hn1.out]; exact h7), List.getElem?_eq_none (by rw [hn2.out]; exact h7)]
 ·have dn : ((n1 : Int) == (n2 : Int)) = false := by simpa using fun h => hne (by omega)
  go_enter Tryz.func77, Tryz.ntmps77
  go_wp2_with fail
  go_ret
  refine ⟨false, rfl, ⟨fun h => (by cases h), fun h => absurd (by rw [<- hn1.out, <- hn2.out, h]) hne⟩, Below.refl _ _⟩
end
end Go.Proofs.YtkghejaimhoboaaGreatDoor
