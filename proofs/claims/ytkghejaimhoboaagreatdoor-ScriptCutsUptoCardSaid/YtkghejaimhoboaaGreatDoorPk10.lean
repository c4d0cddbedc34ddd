/- Parts of the proof of ScriptCuts: contracts of functions that it reaches, and plain lemmas. No condition of their own. -/
import Derived.Test.YtkghejaimhoboaaGreatDoorPk09
import Derived.Test.YtkghejaimhoboaaGreatDoorPk08
import Derived.Lib.SliceRun
import Derived.Deep.MidRow
set_option linter.unusedSimpArgs false
set_option linter.unusedVariables false
set_option maxRecDepth 100000
set_option maxHeartbeats 8000000
namespace Go.Proofs.YtkghejaimhoboaaGreatDoor
open Go.RowKit Go.Shelf
section
attribute [local go_sem] Oper.semAt_some
def waitQ (st : Nat -> Int) (k : Nat) : List Nat := (List.range k).filter fun i => decide (st i = 1)
structure WInv (p c : Nat) (vl : Value) (rb : List Nat) (st : Nat -> Int) (pre : List Nat) (W : World) : Prop where
 box : Boxed W c 270 (.pointer (some ⟨p, 0, none⟩))
 l : W.cell? ⟨p, 6, none⟩ = some vl
 rows : W.ownsRow 0 314 1 vl rb.length (ptrs rb)
 stage : ∀ i b, rb[i]? = some b -> (∀ j ∈ pre, j < i) -> W.cell? ⟨b, 8, none⟩ = some (.int .i64 (st i))
end
section
def RowV.sent (r : RowV) (y : Int) : RowV := { r with id := y, stage := 2 }
structure SS where
 s : OS
 ps : List PackV
 cs : List ChangeV
def SS.send (x : SS) (i : Nat) : SS :=
 if x.s.window <= (idsOf x.s.l).length then x else
 match x.s.l[i]? with
 | none => x
 | some r =>
  let y := firstI (idsOf x.s.l).length x.s.id (idsOf x.s.l)
  ⟨{ x.s with l := x.s.l.set i (r.sent y), id := y % 65535 + 1 }, x.ps ++ [(r.sent y).pub false], x.cs ++ [⟨false, r.sent y⟩]⟩
def SS.sends (x : SS) (q : List Nat) : SS := q.foldl SS.send x
theorem SS.send_full (x : SS) (i : Nat) (h : x.s.window <= (idsOf x.s.l).length) : x.send i = x := by unfold SS.send; rw [if_pos h]
theorem SS.sends_full (x : SS) (q : List Nat) (h : x.s.window <= (idsOf x.s.l).length) : x.sends q = x := by
 induction q with
 | nil => rfl
 | cons i q ih =>
  show (x.send i).sends q = x
  rw [SS.send_full x i h]; exact ih
structure SS.Alike (x y : SS) : Prop where
 len : y.s.l.length = x.s.l.length
 client : y.s.client = x.s.client
 window : y.s.window = x.s.window
 room : y.s.room = x.s.room
 seq : y.s.seq = x.s.seq
 packs : y.ps.length <= x.ps.length + 1
 chgs : y.cs.length <= x.cs.length + 1
theorem ids_set (l : List RowV) (i : Nat) (r r' : RowV) (h : l[i]? = some r) (h1 : r.stage = 1) (h2 : r'.stage ≠ 1) : (r'.id.toNat :: idsOf l).Perm (idsOf (l.set i r')) := by
 induction l generalizing i with
 | nil => simp at h
 | cons x l ih =>
  cases i with
  | zero =>
   simp at h
   subst h;simp [idsOf, h1, h2]
  | succ i =>
   simp at h
   have := ih i h
   by_cases hx : x.stage = 1
   ·simpa [idsOf, hx] using this
   ·have e1 : idsOf (x :: l) = x.id.toNat :: idsOf l := by simp [idsOf, hx]
    have e2 : idsOf ((x :: l).set (i + 1) r') = x.id.toNat :: idsOf (l.set i r') := by simp [idsOf, hx]
    rw [e1, e2]
    exact (List.Perm.swap _ _ _).trans (this.cons _)
theorem OB.sent {w w' : World} {B : Nat} {L : Lay} {s : OS} {ps : List PackV} {cs : List ChangeV} (h : OB w B L s ps cs) (i b : Nat) (r : RowV) (hb : L.rb[i]? = some b) (hr : s.l[i]? = some r) (hs : r.stage = 1) (y : Int) (hy : 1 <= y /\ y <= 65535)
  (hnot : y.toNat ∉ idsOf s.l) (hund : ((idsOf s.l).length : Int) < s.window) (hw : Wrote [b, L.sb] w w') (hbl : Blk w' b (r.sent y).vals 136) (hin : Inb w' L.ib L.sb 100 (tog L.W y.toNat)) :
  OB w' B { L with W := tog L.W y.toNat } { s with l := s.l.set i (r.sent y) } ps cs := by
 have hrow := h.cells i b r hb hr
 have hperm := ids_set s.l i r (r.sent y) hr hs (by simp [RowV.sent])
 have hn : ∀ {T : TypeId} {x : Nat} {c : Array Value}, Blk w x c T -> T ≠ 136 -> T ≠ 306 -> x ∉ [b, L.sb] := fun hx h1 h2 hm => by
  simp at hm
  rcases hm with hm | hm
  ·exact (hx.ne hrow h1) hm
  ·exact (hx.ne h.inb.set h2) hm
 have hrw : ∀ {base : Nat} {e : TypeId} {size : Nat} {v : Value} {n : Nat} {xs : List Value}, w.ownsRow base e size v n xs -> e ≠ 136 -> e ≠ 306 -> w'.ownsRow base e size v n xs := fun hx h1 h2 => not_own hx hw fun x hm hbk => by
  simp at hm
  rcases hm with rfl | rfl
  ·exact block_not_row hrow (Ne.symm h1) hx (mem_blk.1 hbk).symm
  ·exact block_not_row h.inb.set (Ne.symm h2) hx (mem_blk.1 hbk).symm
 have hbf : b ∈ L.foot := by simp [Lay.foot, List.mem_of_getElem? hb]
 refine ⟨Nat.le_trans h.base hw.size, h.box.wrote hw (hn h.box (by decide) (by decide)), hin, (h.set.come (by omega) hnot).perm hperm, ?_, ?_, ?_, h.nodup, hrw h.packs (by decide) (by decide), hrw h.chgs (by decide) (by decide), h.tz.wrote hw ?_, h.gg, ?_⟩
 ·have := hrw h.rows (by decide) (by decide)
  simpa using this
 ·simpa using h.len
 ·intro j b' r' h1 h2
  dsimp only at h1 h2
  by_cases e : j = i
  ·subst e
   rw [hb] at h1
   cases h1
   have hlt := (List.getElem?_eq_some_iff.1 hr).1
   rw [List.getElem?_set_self hlt] at h2
   cases h2
   exact hbl
  ·rw [List.getElem?_set_ne (Ne.symm e)] at h2
   have hc := h.cells j b' r' h1 h2
   refine hc.wrote hw fun hm => ?_
   simp at hm
   rcases hm with rfl | hm
   ·have hlt1 := (List.getElem?_eq_some_iff.1 h1).1
    exact e ((List.getElem?_inj hlt1 h.nodup).1 (h1.trans hb.symm))
   ·exact (hc.ne h.inb.set (by decide)) hm
 ·intro hm
  simp at hm
  rcases hm with hm | hm
  ·exact h.gg (hm ▸ hbf)
  ·exact h.gg (by simp [Lay.foot, hm])
 ·have hok := h.ok
  refine ⟨hok.win, by simpa using hok.room, hok.seq, hok.id, hok.cl, ?_, hperm.nodup_iff.1 (List.nodup_cons.2 ⟨hnot, hok.nodup⟩), ?_⟩
  ·intro x hx hst
   rcases List.mem_or_eq_of_mem_set hx with hx | hx
   ·exact hok.ids x hx hst
   ·subst hx; exact hy
  ·have := hperm.length_eq
   simp only [List.length_cons] at this
   show ((idsOf (s.l.set i (r.sent y))).length : Int) <= s.window
   omega
end
section
attribute [local go_sem] Oper.semAt_some
structure SInv (w0 : World) (B : Nat) (L : Lay) (x0 : SS) (c c2 : Nat) (pre : List Nat) (W : World) : Prop where
 ob : ∃ vp vc V, OB W B { L with vp := vp, vc := vc, W := V } (x0.sends pre).s (x0.sends pre).ps (x0.sends pre).cs /\ (∀ x ∈ ({ L with vp := vp, vc := vc, W := V } : Lay).foot, x ∈ L.foot \/ w0.heap.size + 2 <= x)
 wrote : Wrote L.foot w0 W
 box : Boxed W c 270 (.pointer (some ⟨L.p, 0, none⟩))
 box2 : Boxed W c2 270 (.pointer (some ⟨L.p, 0, none⟩))
theorem SInv.out {w0 : World} {B : Nat} {L : Lay} {x0 : SS} {c c2 : Nat} {pre : List Nat} {W W' : World} (h : SInv w0 B L x0 c c2 pre W) {M : List Nat} (hw : Wrote M W W') (hM : ∀ x ∈ M, x ∉ L.foot /\ x < w0.heap.size + 2 /\ w0.heap.size <= x) (hc : c < w0.heap.size) (hc2 : c2 < w0.heap.size) (hgg : 1 < w0.heap.size) : SInv w0 B L x0 c c2 pre W' := by
 obtain ⟨vp, vc, V, hO, hs⟩ := h.ob
 refine ⟨⟨vp, vc, V, hO.out hw (fun x hx hf => ?_) (fun hm => by have := (hM _ hm).2.2; omega), hs⟩, ⟨hw.os.trans h.wrote.os, hw.tape.trans h.wrote.tape, hw.output.trans h.wrote.output, Nat.le_trans h.wrote.size hw.size, fun i hi hm => (hw.block i (Nat.lt_of_lt_of_le hi h.wrote.size) (fun hx => by have := (hM i hx).2.2; omega)).trans (h.wrote.block i hi hm)⟩, hw.boxed (fun hm => by have := (hM _ hm).2.2; omega) h.box, hw.boxed (fun hm => by have := (hM _ hm).2.2; omega) h.box2⟩
 have h1 := hM x hx
 rcases hs x hf with h2 | h2
 ·exact h1.1 h2
 ·omega
def stOf (l : List RowV) (i : Nat) : Int := (l[i]?.map (·.stage)).getD 0
def SS.all (x : SS) : SS := x.sends (waitQ (stOf x.s.l) x.s.l.length)
end
section
def SS.fin (x : SS) (q i : Int) : SS := ⟨x.s, x.ps, x.cs ++ (if x.s.seq = q /\ x.s.id = i then [] else [⟨false, x.s.session⟩])⟩
def OS.start (s : OS) : SS := ⟨s, [], []⟩
end
section
def RowV.has (z : Int) (r : RowV) : Bool := decide (r.stage ≠ 1) && decide (r.id = z)
end
section
section
variable {P : Program} {ops : Array Oper} {KQ : Exit -> Act -> World -> Prop} {facts : List Fact} {taken : List Nat} {a : Act} {w : World}
theorem sliceQ (i : Nat) {oi : Oper} (hi : ops[i]? = some oi) (hB : takeB ops (facts.map (·.1)) taken i = true) (hw : Region.wanted oi (yielded ops a.tmps) = true) {t : TypeId} {x : Operand} {lo hi' mx : Option Operand} (hop : oi.op = .slice t x lo hi' mx) (hu : P.underlying t = some (.slice (P.elem t)))
  (v : Value) (hr : ∀ w', (Instr.slice t (a.eval x) (lo.map a.eval) (hi'.map a.eval) (mx.map a.eval)).run P w' = .ok v w')
  (h : atR P ops KQ facts (i :: taken) (a.put oi.dst v) w) : atR P ops KQ facts taken a w := by
 refine readQ i hi hB v hw (fun w' _ => ?_) h
 have hr2 : ∀ w', (Instr.sliceAt t (a.eval x) (lo.map a.eval) (hi'.map a.eval) (mx.map a.eval)).run P w' = .ok v w' := fun w' => (run_sliceAt_slice (h := hu) ..).trans (hr w')
 simp only [execOp, hop, Sem.run_bind, hr2, Result.andThen_ok, Sem.run_pure]
end
end
section
def SS.gone (x : SS) (k : Nat) : SS := match x.s.l[k]? with
 | none => x
 | some r => ⟨{ x.s with l := x.s.l.eraseIdx k }, x.ps, x.cs ++ [⟨true, r⟩]⟩
end
section
def SS.goneIf (x : SS) (k : Nat) (st q : Int) : SS := match x.s.l[k]? with
 | none => x
 | some r => if r.stage = st /\ r.qos = q then x.gone k else x
structure AtRow (w : World) (L : Lay) (k b : Nat) (r : RowV) (g n cap : Nat) : Prop where
 vl : L.vl = .slice (some ⟨g, 0, none⟩) n cap
 box : w.cell? ⟨L.p, 6, none⟩ = some (.slice (some ⟨g, 0, none⟩) n cap)
 arr : w.cell? ⟨g, k, none⟩ = some (.pointer (some ⟨b, 0, none⟩))
 row : Blk w b r.vals 136
 lt : k < n
 le : n <= cap
def SS.goneAt (x : SS) (n st q : Int) : SS := if n < 0 then x else x.goneIf n.toNat st q
end
section
def pubrel (z : Int) : PackV := ⟨6, false, false, 0, [], [], z⟩
def SS.rel (x : SS) (z : Int) : SS := ⟨x.s, x.ps ++ [pubrel z], x.cs⟩
end
section
structure Nigh (x y : SS) : Prop where
 client : y.s.client = x.s.client
 seq : y.s.seq = x.s.seq
 ps : y.ps.length <= x.ps.length + 1
 cs : y.cs.length <= x.cs.length + 1
theorem Nigh.refl (x : SS) : Nigh x x := ⟨rfl, rfl, by omega, by omega⟩
def SS.comp (x : SS) (z : Int) : SS := x.goneAt (idxOf (RowV.has z) x.s.l) 3 2
end
section
def anewP (r : RowV) : List PackV := if r.stage = 2 then [r.pub true] else if r.stage = 3 then [pubrel r.id] else []
def OS.again (s : OS) : SS := ⟨s, s.l.flatMap anewP, []⟩
end
section
def RowV.cl (r : RowV) : List Value := r.vals.toList
theorem eRow : ElemT Tryz.prog 122 136 (.agg (RowV.vals ⟨0, [], 0, 0, [], [], 0, false, 0⟩)) 9 96 := ⟨Tryz.underlying122, by kernel_rfl, by kernel_rfl⟩
theorem RowV.cllen (r : RowV) : r.cl.length = 9 := rfl
theorem RowV.one (r : RowV) : ∀ u ∈ r.cl, u.oneCell' = true := by simp [RowV.cl, RowV.vals, Value.oneCell']
def RowsAt (w : World) (base : Nat) (v : Value) (l : List RowV) : Prop := w.ownsRow base 136 9 v l.length (l.flatMap RowV.cl)
theorem Blk.range {w : World} {b : Nat} {cs : Array Value} {T : TypeId} (h : Blk w b cs T) : w.rangeAt b 0 cs.toList := fun j v hj => by
 rw [Nat.zero_add, h.cell j]
 simpa using hj
end
section
section
variable {P : Program} {w : World} {b : Nat} {cs : Array Value} {T : TypeId}
theorem run_load_blk (h : Blk w b cs T) (ty : TypeId) {d : TypeDesc} (hu : P.underlying ty = some d) (hd : d.isRow = true) (hi : (P.info? ty).map (·.size) = some cs.size) : (Instr.loadAt ty (.pointer (some ⟨b, 0, none⟩))).run P w = .ok (.agg cs) w := by
 have := run_loadAt_mid (P := P) w b 0 ty cs.toList d h.range hu hd (by simpa using hi)
 simpa using this
theorem run_loadVar_blk (h : Blk w b cs T) (ty : TypeId) {d : TypeDesc} (hu : P.underlying ty = some d) (hd : d.isRow = true) (hi : (P.info? ty).map (·.size) = some cs.size) : (loadVar ty ⟨b, 0, none⟩).run P w = .ok (.agg cs) w := by
 have := run_loadVar_mid (P := P) w b 0 ty cs.toList d h.range hu hd (by simpa using hi)
 simpa using this
theorem wpList_load_blk {ops : Array Oper} {rest : List Oper} {op : Oper} {a : Act} {Q : Exit -> Act -> World -> Prop} (hgd : op.guard = none) (ty : TypeId) (x : Operand) (ho : op.op = .load ty x)
  (b : Nat) (cs : Array Value) (hx : a.eval x = .pointer (some ⟨b, 0, none⟩)) (hb : Blk w b cs T) {d : TypeDesc} (hu : P.underlying ty = some d) (hd : d.isRow = true) (hi : (P.info? ty).map (·.size) = some cs.size)
  (h : wpList P ops Q rest (a.put op.dst (.agg cs)) w) : wpList P ops Q (op :: rest) a w :=
 wpList_load_mid hgd ty x ho b 0 hx cs.toList d hb.range hu hd (by simpa using hi) (by simpa using h)
theorem wpList_store_blk {ops : Array Oper} {rest : List Oper} {op : Oper} {a : Act} {Q : Exit -> Act -> World -> Prop} (hgd : op.guard = none) (ty T : TypeId) (x y : Operand) (ho : op.op = .store ty x y) (n : Nat) (hs : ∀ w, (sizeOf ty).run P w = .ok n w)
  (b : Nat) (cur cs : Array Value) (hx : a.eval x = .pointer (some ⟨b, 0, none⟩)) (hy : a.eval y = .agg cs) (hb : Blk w b cur T) (h1 : cs.size = n) (h2 : cur.size = n) (ho1 : ∀ v ∈ cs.toList, v.oneCell' = true)
  (h : ∀ w', Blk w' b cs T -> Wrote [b] w w' -> wpList P ops Q rest (a.put op.dst undef) w') : wpList P ops Q (op :: rest) a w :=
 wpList_plain hgd fun _ hK => wp_store_whole ty T x y ho n hs b cur cs hx hy hb h1 h2 ho1 fun w' hb' hw' => hK _ _ (h w' hb' hw')
theorem wL {ops : Array Oper} {rest : List Oper} {op : Oper} {a : Act} {Q : Exit -> Act -> World -> Prop} {T : TypeId} (ty : TypeId) {x : Operand} (ho : op.op = .load ty x) {b : Nat} {cs : Array Value} (hx : a.eval x = .pointer (some ⟨b, 0, none⟩)) (hb : Blk w b cs T) {d : TypeDesc} (hu : P.underlying ty = some d)
  (h : wpList P ops Q rest (a.put op.dst (.agg cs)) w) (hgd : op.guard = none := by rfl) (hd : d.isRow = true := by rfl) (hi : (P.info? ty).map (·.size) = some cs.size := by kernel_rfl) : wpList P ops Q (op :: rest) a w :=
 wpList_load_blk hgd ty x ho b cs hx hb hu hd hi h
theorem wS {ops : Array Oper} {rest : List Oper} {op : Oper} {a : Act} {Q : Exit -> Act -> World -> Prop} (T : TypeId) (n : Nat) {x y : Operand} (ho : op.op = .store T x y)
  (b : Nat) (cur cs : Array Value) (hx : a.eval x = .pointer (some ⟨b, 0, none⟩)) (hy : a.eval y = .agg cs) (hb : Blk w b cur T) (h1 : cs.size = n) (h2 : cur.size = n) (ho1 : ∀ v ∈ cs.toList, v.oneCell' = true)
  (h : ∀ w', Blk w' b cs T -> Wrote [b] w w' -> wpList P ops Q rest (a.put op.dst undef) w') (hgd : op.guard = none := by rfl) (hs : ∀ w, (sizeOf T).run P w = .ok n w := by (intro w; kernel_rfl)) : wpList P ops Q (op :: rest) a w :=
 wpList_store_blk hgd T T x y ho n hs b cur cs hx hy hb h1 h2 ho1 h
theorem wp_append_grp {o : Oper} {a : Act} {K : Act -> World -> Prop} {Q : Exit -> Act -> World -> Prop} {t e : TypeId} {z : Value} {size bytes : Nat} (s x : Operand)
  (ho : o.op = .call { callee := .builtin .append, args := #[s, x], argTypes := #[t, t] }) (E : ElemT P t e z size bytes) (hsz : 0 < size)
  (base : Nat) (v : Value) (n : Nat) (xs : List Value) (hs : a.eval s = v) (hown : w.ownsRow base e size v n xs) (g : Nat) (news : List Value) (T : TypeId) (hx : a.eval x = .slice (some ⟨g, 0, none⟩) 1 1) (hg : Blk w g news.toArray T) (hl : news.length = size) (h1 : ∀ u ∈ news, u.oneCell' = true)
  (h63 : n < 100000000) (hbytes : (n + 1) * bytes <= 140737488355328) (hbase : base <= w.heap.size)
  (h : ∀ v' w', w'.ownsRow base e size v' (n + 1) (xs ++ news) -> w.grownBy w' v.ownBlock -> (∀ k, v'.ownBlock = some k -> v.ownBlock = some k \/ w.heap.size <= k) -> K (a.put o.dst v') w') : o.wp P a w K Q := by
 obtain ⟨v', w', hr, h2, h3, h4⟩ := run_append2 (P := P) (w := w) o.type E hsz base v n xs hown ⟨g, 0, none⟩ news hl (fun j u hj => by
  have := hg.cell j
  simp only [List.getElem?_toArray] at this
  rw [hj] at this
  by_cases h0 : j = 0
  ·subst h0; simpa [Addr.add] using this
  ·simpa [Addr.add, h0] using this) h1 h63 hbytes hbase
 unfold Oper.wp execOp
 simp only [ho, resolve, invoke, builtin, Sem.run_bind, Sem.run_pure, Result.andThen_ok, List.map_toArray, List.map_cons, List.map_nil, hs, hx, hr]
 exact h v' w' h2 h3 h4
theorem results_cc {fn : Func} {a b : Tmp} {t u : TypeId} (h : fn.results = #[.cell a t, .cell b u]) {tmps : Array Value} {p q : Addr} (hp : tmps.getD a undef = .pointer (some p)) (hq : tmps.getD b undef = .pointer (some q)) {v x : Value} (hl : (loadVar t p).run P w = .ok v w) (hu : (loadVar u q).run P w = .ok x w) : (results fn tmps).run P w = .ok (.tuple #[v, x]) w := by
 rw [Array.getD_eq_getD_getElem?] at hp hq
 simp [results, h, hp, hq, asAddr, hl, hu]
end
theorem Blk.keepW {w w' : World} {b : Nat} {cs : Array Value} {T : TypeId} (h : Blk w b cs T) {M : List Nat} (hw : Wrote M w w') (hn : b ∉ M) : Blk w' b cs T := h.wrote hw hn
theorem below_wrote {a w w' : World} (h : Below a.heap.size a w) {M : List Nat} (hw : Wrote M w w') (hM : ∀ x ∈ M, a.heap.size <= x) : Below a.heap.size a w' :=
 h.trans (hw.below h.size hM)
section
variable {P : Program} {ops : Array Oper} {KQ : Exit -> Act -> World -> Prop} {facts : List Fact} {taken : List Nat} {a : Act} {w : World}
end
section
variable {P : Program} {ops : Array Oper}
end
end
end Go.Proofs.YtkghejaimhoboaaGreatDoor
