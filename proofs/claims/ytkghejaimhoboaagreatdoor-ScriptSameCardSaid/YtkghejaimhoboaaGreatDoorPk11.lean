/- Parts of the proof of ScriptSame: contracts of functions that it reaches, and plain lemmas. No condition of their own. -/
import Derived.Test.YtkghejaimhoboaaGreatDoorPk10
import Derived.Defers
import Derived.Recover
import Derived.Test.YtkghejaimhoboaaGreatDoorPk09
import Derived.Test.YtkghejaimhoboaaGreatDoorPk07
import Derived.Laws.Runes
import Derived.Laws.RangeAny
import Derived.Lib.OthersKept
import Derived.Deep.LoopGhost
import Derived.RegionTactic
import Derived.Deep.QuietTactic
import Derived.BigQuiet
set_option linter.unusedSimpArgs false
set_option linter.unusedVariables false
set_option maxRecDepth 100000
set_option maxHeartbeats 8000000
namespace Go.Proofs.YtkghejaimhoboaaGreatDoor
open Go.RowKit Go.Shelf
section
section
variable {P : Program} {w : World}
theorem take_set_drop (cur : Array Value) (j : Nat) (v : Value) (hj : j < cur.size) : (cur.toList.take j ++ [v] ++ cur.toList.drop (j + 1)).toArray = cur.setIfInBounds j v := by
 obtain ⟨l⟩ := cur
 simp only [List.size_toArray] at hj
 simp only [List.setIfInBounds_toArray]
 congr 1
 rw [List.set_eq_take_append_cons_drop, if_pos hj]
 simp
theorem run_store_cell (t T : TypeId) (hs : ∀ w, (sizeOf t).run P w = .ok 1 w) {b j : Nat} {cur : Array Value} {v : Value} (hb : Blk w b cur T) (hj : j < cur.size) (hv : v.cells = #[v]) (h1 : v.oneCell' = true) :
  (Instr.storeAt t (.pointer (some ⟨b, j, none⟩)) v).run P w = .ok () (w.setRow b (cur.setIfInBounds j v)) := by
 have hr := run_storeCells_at P b j T [v] 0 cur w hb (by simp; omega) (by simpa using h1)
 simp only [Nat.add_zero, List.length_singleton] at hr
 rw [take_set_drop cur j v hj] at hr
 simp [Instr.storeAt, Instr.sureAddr, storeVar, hs, hv, hr]
theorem wp_store_cell {o : Oper} {a : Act} {K : Act -> World -> Prop} {Q : Exit -> Act -> World -> Prop} (t T : TypeId) (x y : Operand) (ho : o.op = .store t x y) (hs : ∀ w, (sizeOf t).run P w = .ok 1 w) (b j : Nat) (cur : Array Value) (v : Value)
  (hx : a.eval x = .pointer (some ⟨b, j, none⟩)) (hy : a.eval y = v) (hb : Blk w b cur T) (hj : j < cur.size) (hv : v.cells = #[v]) (h1 : v.oneCell' = true)
  (h : ∀ w', Blk w' b (cur.setIfInBounds j v) T -> Wrote [b] w w' -> K (a.put o.dst undef) w') : o.wp P a w K Q := by
 have hr := run_store_cell (P := P) t T hs hb hj hv h1
 unfold Oper.wp execOp
 simp only [ho, hx, hy, Sem.run_bind, hr, Result.andThen_ok, Sem.run_pure]
 simp only [Oper.upon]
 exact h _ (setRow_heap w b cur _ T (0, 0) hb) (setRow_wrote b _)
theorem wpList_store_cell {ops : Array Oper} {rest : List Oper} {op : Oper} {a : Act} {Q : Exit -> Act -> World -> Prop} (hgd : op.guard = none) (t T : TypeId) (x y : Operand) (ho : op.op = .store t x y) (hs : ∀ w, (sizeOf t).run P w = .ok 1 w) (b j : Nat) (cur : Array Value) (v : Value)
  (hx : a.eval x = .pointer (some ⟨b, j, none⟩)) (hy : a.eval y = v) (hb : Blk w b cur T) (hj : j < cur.size) (hv : v.cells = #[v]) (h1 : v.oneCell' = true)
  (h : ∀ w', Blk w' b (cur.setIfInBounds j v) T -> Wrote [b] w w' -> wpList P ops Q rest (a.put op.dst undef) w') : wpList P ops Q (op :: rest) a w :=
 wpList_plain hgd fun _ hK => wp_store_cell t T x y ho hs b j cur v hx hy hb hj hv h1 fun w' hb' hw' => hK _ _ (h w' hb' hw')
end
theorem Wrote.andNew {M N : List Nat} {a b c : World} (h : Wrote M a b) (k : Wrote N b c) (hN : ∀ x ∈ N, a.heap.size <= x) : Wrote M a c :=
 ⟨k.os.trans h.os, k.tape.trans h.tape, k.output.trans h.output, Nat.le_trans h.size k.size, fun i hi hm => (k.block i (Nat.lt_of_lt_of_le hi h.size) (fun hx => by have := hN i hx; omega)).trans (h.block i hi hm)⟩
theorem results_ct1 {P : Program} {w : World} {fn : Func} {a b : Tmp} {t : TypeId} (h : fn.results = #[.cell a t, .tmp b]) {tmps : Array Value} {p : Addr} (hp : tmps.getD a undef = .pointer (some p)) {v x : Value} (hl : (loadVar t p).run P w = .ok v w) (hx : tmps.getD b undef = x) : (results fn tmps).run P w = .ok (.tuple #[v, x]) w := by
 rw [Array.getD_eq_getD_getElem?] at hp hx
 simp [results, h, hp, hx, asAddr, hl]
end
section
attribute [local go_sem] Oper.semAt_some
def stopV (z : Int) : Value := .iface 89 (.agg #[.int .i64 z])
def given (z : Int) : List PanicEntry := [{ v := stopV z, recovered := false }]
def ends (o : Option Int) (v : Value) : Ending := match o with
 | none => .returned v
 | some z => .panicked (given z)
theorem sc_must (b : Bool) (z : Int) (w : World) : Calls Tryz.prog 19 #[.bool b, .int .i64 z] w fun e w' => e = (if b then .returned (.tuple #[]) else .panicked (given z)) /\ w = w' := by
 cases b with
 | true =>
  go_enter Tryz.func19, Tryz.ntmps19
  go_wp2
  go_end0
  exact ⟨rfl, rfl⟩
 | false =>
  go_enter Tryz.func19, Tryz.ntmps19
  go_wp2
  exact ⟨rfl, rfl, rfl⟩
theorem stop_is (z : Int) (W : World) : (Instr.typeAssert (Value.iface 89 (Value.agg #[Value.int IntKind.i64 z])) 20 89 true).run Tryz.prog W = .ok (.tuple #[.agg #[.int .i64 z], .bool true]) W := by kernel_rfl
theorem sc_catch (g : Nat) (z : Int) (w : World) (h : Boxed w g 31 (.int .i64 0)) :
  CallsD Tryz.prog 40 #[.pointer (some ⟨g, 0, none⟩)] (.panicking (given z)) w fun e u' w' =>
   e = .returned (.tuple #[]) /\ u' = .panicking [{ v := stopV z, recovered := true }] /\ Boxed w' g 31 (.int .i64 z) /\ Below w.heap.size (w.setCell ⟨g, 0, none⟩ (.int .i64 z)) w' := by
 refine callsD_of_wpS Tryz.func40 rfl fun c₀ cs hu => ?_
 simp only [Tryz.ntmps40, List.size_toArray, List.length_cons, List.length_nil, Nat.reduceAdd, Nat.reduceSub, Array.replicate_succ, Array.replicate_zero, List.push_toArray, List.append_toArray, List.nil_append, List.cons_append]
 apply wpS_seq
 apply wpS_region
 simp [wpOpsS, go_sem, recoverD, hu, given, Tryz.ntmps40, Exit.thenS]
 refine wpS_of_wp ?_
 have h' := h.alloc (.cells #[.int .i64 z] 89)
 have k0 := h'.cell
 have f0 := h'.frozen
 have hl := h.lt
 unfold stopV
 have hta := stop_is z
 go_wp2
 refine ⟨rfl, _, rfl, .tuple #[], results_none rfl _ _ _, rfl, rfl, (h.set _).alloc _, (Below.refl _ _).alloc (by simp) _⟩
theorem sc_quiet (g : Nat) (w : World) :
  CallsD Tryz.prog 40 #[.pointer (some ⟨g, 0, none⟩)] .returning w fun e u' w' => e = .returned (.tuple #[]) /\ u' = .returning /\ w = w' := by
 refine callsD_of_wpS Tryz.func40 rfl fun c₀ cs hu => ?_
 simp only [Tryz.ntmps40, List.size_toArray, List.length_cons, List.length_nil, Nat.reduceAdd, Nat.reduceSub, Array.replicate_succ, Array.replicate_zero, List.push_toArray, List.append_toArray, List.nil_append, List.cons_append]
 apply wpS_seq
 apply wpS_region
 simp [wpOpsS, go_sem, recoverD, hu, Tryz.ntmps40, Exit.thenS]
 refine wpS_of_wp ?_
 go_wp2
 refine ⟨rfl, .returning, by cases c₀; simp_all, .tuple #[], results_none rfl _ _ _, rfl, rfl, rfl⟩
theorem sc_guard (f : FuncId) (cap : Array Value) (R : Option Int -> World -> Prop) (w : World) (he : ∀ args W, (callFunc f args).run Tryz.prog W = .ok (.enter f args) W)
  (h : Calls Tryz.prog f cap (w.alloc (.cells #[.int .i64 0] 31)) fun e w' => ∃ o, e = ends o (.tuple #[]) /\ R o w' /\ Boxed w' w.heap.size 31 (.int .i64 0)) :
  Calls Tryz.prog 17 #[.func (.func f) #[] cap] w fun e w' => ∃ o w1, e = .returned (.int .i64 (o.getD 0)) /\ R o w1 /\ Below w1.heap.size (w1.setCell ⟨w.heap.size, 0, none⟩ (.int .i64 (o.getD 0))) w' /\ w.heap.size < w1.heap.size := by
 have hmf : ∀ (fn : Fn) (first cap : Array Value) (w : World), (Instr.makeFunc fn first cap).run Tryz.prog w = .ok (.func fn first cap) w := fun _ _ _ _ => rfl
 go_enter_defers Tryz.func17, Tryz.ntmps17
 go_wp2_with fail
 refine h.mono ?_
 rintro e w1 ⟨o, rfl, hR, hb⟩
 have hl := hb.lt
 cases o with
 | none =>
  unfold ends
  have k0 := hb.cell
  have f0 := hb.frozen
  go_wp2_with fail
  refine leaves_cons (f := 40) (args := #[.pointer (some ⟨w.heap.size, 0, none⟩)]) (by simp) (by simp [go_sem]) ?_
  refine (sc_quiet _ _).mono ?_
  rintro e u' w2 ⟨rfl, rfl, rfl⟩
  simp only [Leaves, settle]
  have k1 := (hb.set (.int .i64 0)).cell
  refine ⟨_, results_cell1 rfl rfl (by simp [go_sem, k1, loadVar]), ⟨none, w1, rfl, hR, Below.refl _ _, hl⟩⟩
 | some z =>
  unfold ends
  go_wp2_with fail
  refine leaves_cons (f := 40) (args := #[.pointer (some ⟨w.heap.size, 0, none⟩)]) (by simp) (by simp [go_sem]) ?_
  refine (sc_catch _ z _ hb).mono ?_
  rintro e u' w2 ⟨rfl, rfl, hb2, hbel⟩
  simp only [Leaves, settle, List.dropWhile]
  have k1 := hb2.cell
  refine ⟨_, results_cell1 rfl rfl (by simp [go_sem, k1, loadVar]), ⟨some z, w1, rfl, hR, hbel, hl⟩⟩
end
section
theorem ob_rebase2 {w : World} {B : Nat} {L : Lay} {s : OS} (h : OB w B L s [] []) (hn : L.vp = .slice none 0 0 /\ L.vc = .slice none 0 0) : OB w w.heap.size L s [] [] := by
 obtain ⟨p, ib, sb, vl, vp, vc, rb, W⟩ := L
 dsimp only at hn
 obtain ⟨rfl, rfl⟩ := hn
 exact OB.rebase (L := ⟨p, ib, sb, vl, .slice none 0 0, .slice none 0 0, rb, W⟩) h (Nat.le_refl _)
end
section
section
variable {P : Program} {w : World} {t e : TypeId} {z : Value} {size bytes : Nat}
theorem run_append_m (ty : TypeId) (E : ElemT P t e z size bytes) (hsz : 0 < size) (base : Nat) (v : Value) (n : Nat) (xs : List Value) (hown : w.ownsRow base e size v n xs)
  (a : Addr) (m c : Nat) (hm1 : 0 < m) (news : List Value) (hl : news.length = m * size) (hnews : ∀ j u, news[j]? = some u -> w.cell? (a.add j) = some u) (h1 : ∀ u ∈ news, u.oneCell' = true)
  (h63 : n + m < 100000000) (hbytes : (n + m) * bytes <= 140737488355328) (hbase : base <= w.heap.size) :
  ∃ v' w', (Builtin.append_ #[t, t] ty #[v, .slice (some a) m c]).run P w = .ok v' w' /\ w'.ownsRow base e size v' (n + m) (xs ++ news) /\ w.grownBy w' v.ownBlock /\ (∀ k, v'.ownBlock = some k -> v.ownBlock = some k \/ w.heap.size <= k) := by
 obtain ⟨i, hi, hz0, hz1, hz2⟩ := info_parts E.info
 have hm : n + m <= maxLen := by unfold maxLen; omega
 obtain ⟨v', w', hr, h2, h3, _⟩ := run_append_own (P := P) w base t ty e i z size bytes E.ht hi hz0 hz1 hz2 E.hzs hsz v n xs hown a m c news hl hnews h1 hm hbytes hbase
 refine ⟨v', w', hr, h2, h3, fun k hk => ?_⟩
 have hl2 : news.length = m * i.size := by rw [hz1]; exact hl
 rcases hown.2 with ⟨rfl, rfl⟩ | ⟨g, cap, cur, rfl, hbg, hg, hnc, hcm, hcs, htake⟩
 ·have hr2 := run_append_nil (P := P) w t ty e i z E.ht hi hz0 a m c news hl2 hnews (by omega) (by omega) (by rw [hz2]; simp at hbytes; omega)
  rw [hr] at hr2
  cases hr2
  simp [Value.ownBlock] at hk
  exact .inr (by omega)
 ·by_cases hroom : n + m <= cap
  ·have hfit : n * i.size + news.length <= cur.size := by rw [hl, hcs, hz1, <- Nat.add_mul]; exact Nat.mul_le_mul_right _ hroom
   have hr2 := run_append_room (P := P) w t ty e i E.ht hi g n cap cur hg a m c news hl2 hnews h1 hroom hfit
   rw [hr] at hr2
   cases hr2
   exact .inl hk
  ·have holds : ∀ j u, xs[j]? = some u -> w.cell? ((⟨g, 0, none⟩ : Addr).add j) = some u := hown.cells (g := g) rfl
   have hr2 := run_append_grow (P := P) w t ty e i z E.ht hi hz0 ⟨g, 0, none⟩ n cap xs (by rw [hz1]; exact hown.1) holds a m c news hl2 hnews (by omega) (by unfold maxLen at hm; omega) (growslice_fits (by omega) (by rw [hz2]; exact hbytes))
   rw [hr] at hr2
   cases hr2
   simp [Value.ownBlock] at hk
   exact .inr (by omega)
theorem run_append_none (ty : TypeId) (E : ElemT P t e z size bytes) (base : Nat) (v : Value) (n : Nat) (xs : List Value) (hown : w.ownsRow base e size v n xs) (c : Nat) (a : Option Addr) (ha : a = none \/ ∃ g, a = some ⟨g, 0, none⟩) :
  (Builtin.append_ #[t, t] ty #[v, .slice a 0 c]).run P w = .ok v w := by
 obtain ⟨i, hi, hz0, hz1, hz2⟩ := info_parts E.info
 have hn : ∃ b cap, v = .slice b n cap /\ n <= cap := by
  rcases hown.2 with ⟨rfl, rfl⟩ | ⟨g, cap, cur, rfl, _, _, hnc, _⟩
  ·exact ⟨none, 0, rfl, Nat.le_refl _⟩
  ·exact ⟨_, _, rfl, hnc⟩
 obtain ⟨b, cap, rfl, hle⟩ := hn
 rcases ha with rfl | ⟨g, rfl⟩
 ·cases b <;> simp [Builtin.append_, run_underlying E.ht, sizeOf, typeInfo, hi, Builtin.lenOf, hle, run_firstCells_none, storeCells]
 ·have hf := run_firstCells_some (P := P) w i.size 0 ⟨g, 0, none⟩ 0 c [] (by simp) (by simp)
  cases b <;> simp [Builtin.append_, run_underlying E.ht, sizeOf, typeInfo, hi, Builtin.lenOf, hle, hf, storeCells]
theorem run_append_rows (ty : TypeId) (E : ElemT P t e z size bytes) (hsz : 0 < size) (base : Nat) (v : Value) (n : Nat) (xs : List Value) (hown : w.ownsRow base e size v n xs)
  (base2 : Nat) (u : Value) (m : Nat) (ys : List Value) (hsrc : w.ownsRow base2 e size u m ys) (h1 : ∀ u ∈ ys, u.oneCell' = true)
  (h63 : n + m < 100000000) (hbytes : (n + m) * bytes <= 140737488355328) (hbase : base <= w.heap.size) :
  ∃ v' w', (Builtin.append_ #[t, t] ty #[v, u]).run P w = .ok v' w' /\ w'.ownsRow base e size v' (n + m) (xs ++ ys) /\ w.grownBy w' v.ownBlock /\ (∀ k, v'.ownBlock = some k -> v.ownBlock = some k \/ w.heap.size <= k) := by
 rcases Nat.eq_zero_or_pos m with rfl | hm
 ·have hy : ys = [] := List.eq_nil_of_length_eq_zero (by simpa using hsrc.1)
  subst hy;obtain ⟨a, c, rfl⟩ := own_slice hsrc
  have ha : a = none \/ ∃ g, a = some ⟨g, 0, none⟩ := by
   rcases hsrc.2 with ⟨he, _⟩ | ⟨g, cap, cur, he, _⟩
   ·cases he; exact .inl rfl
   ·cases he; exact .inr ⟨g, rfl⟩
  refine ⟨v, w, run_append_none ty E base v n xs hown c a ha, by simpa using hown, World.grownBy.refl _ _, fun k hk => .inl hk⟩
 ·have hcells := fun g => hsrc.cells (g := g)
  rcases hsrc.2 with ⟨rfl, rfl⟩ | ⟨g, cap, cur, rfl, _⟩
  ·have := hsrc.1; simp at this
   rcases this with h | h <;> omega
  ·exact run_append_m ty E hsz base v n xs hown ⟨g, 0, none⟩ m cap hm ys hsrc.1 (hcells g rfl) h1 h63 hbytes hbase
theorem wp_append_rows {o : Oper} {a : Act} {K : Act -> World -> Prop} {Q : Exit -> Act -> World -> Prop} (s x : Operand)
  (ho : o.op = .call { callee := .builtin .append, args := #[s, x], argTypes := #[t, t] }) (E : ElemT P t e z size bytes) (hsz : 0 < size)
  (base : Nat) (v : Value) (n : Nat) (xs : List Value) (hs : a.eval s = v) (hown : w.ownsRow base e size v n xs) (base2 : Nat) (u : Value) (m : Nat) (ys : List Value) (hx : a.eval x = u) (hsrc : w.ownsRow base2 e size u m ys) (h1 : ∀ u ∈ ys, u.oneCell' = true)
  (h63 : n + m < 100000000) (hbytes : (n + m) * bytes <= 140737488355328) (hbase : base <= w.heap.size)
  (h : ∀ v' w', w'.ownsRow base e size v' (n + m) (xs ++ ys) -> w.grownBy w' v.ownBlock -> (∀ k, v'.ownBlock = some k -> v.ownBlock = some k \/ w.heap.size <= k) -> K (a.put o.dst v') w') : o.wp P a w K Q := by
 obtain ⟨v', w', hr, h2, h3, h4⟩ := run_append_rows (P := P) (w := w) o.type E hsz base v n xs hown base2 u m ys hsrc h1 h63 hbytes hbase
 unfold Oper.wp execOp
 simp only [ho, resolve, invoke, builtin, Sem.run_bind, Sem.run_pure, Result.andThen_ok, List.map_toArray, List.map_cons, List.map_nil, hs, hx, hr]
 exact h v' w' h2 h3 h4
end
end
end Go.Proofs.YtkghejaimhoboaaGreatDoor
