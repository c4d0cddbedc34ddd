/- Parts of the proof of ScriptCuts: contracts of functions that it reaches, and plain lemmas. No condition of their own. -/
import Derived.Test.YtkghejaimhoboaaGreatDoorPk10
import Derived.Defers
import Derived.Recover
import Derived.Test.YtkghejaimhoboaaGreatDoorPk09
import Derived.Test.YtkghejaimhoboaaGreatDoorPk07
import Derived.Laws.Runes
import Derived.Laws.RangeAny
import Derived.Lib.OthersKept
import Derived.Deep.LoopGhost
import Derived.RegionTactic
import Derived.Deep.QuietTactic
import Derived.BigQuiet
set_option linter.unusedSimpArgs false
set_option linter.unusedVariables false
set_option maxRecDepth 100000
set_option maxHeartbeats 8000000
namespace Go.Proofs.YtkghejaimhoboaaGreatDoor
open Go.RowKit Go.Shelf
section
section
variable {P : Program} {w : World}
theorem take_set_drop (cur : Array Value) (j : Nat) (v : Value) (hj : j < cur.size) : (cur.toList.take j ++ [v] ++ cur.toList.drop (j + 1)).toArray = cur.setIfInBounds j v := by
 obtain ⟨l⟩ := cur
 simp only [List.size_toArray] at hj
 simp only [List.setIfInBounds_toArray]
 congr 1
 rw [List.set_eq_take_append_cons_drop, if_pos hj]
 simp
theorem run_store_cell (t T : TypeId) (hs : ∀ w, (sizeOf t).run P w = .ok 1 w) {b j : Nat} {cur : Array Value} {v : Value} (hb : Blk w b cur T) (hj : j < cur.size) (hv : v.cells = #[v]) (h1 : v.oneCell' = true) :
  (Instr.storeAt t (.pointer (some ⟨b, j, none⟩)) v).run P w = .ok () (w.setRow b (cur.setIfInBounds j v)) := by
 have hr := run_storeCells_at P b j T [v] 0 cur w hb (by simp; omega) (by simpa using h1)
 simp only [Nat.add_zero, List.length_singleton] at hr
 rw [take_set_drop cur j v hj] at hr
 simp [Instr.storeAt, Instr.sureAddr, storeVar, hs, hv, hr]
theorem wp_store_cell {o : Oper} {a : Act} {K : Act -> World -> Prop} {Q : Exit -> Act -> World -> Prop} (t T : TypeId) (x y : Operand) (ho : o.op = .store t x y) (hs : ∀ w, (sizeOf t).run P w = .ok 1 w) (b j : Nat) (cur : Array Value) (v : Value)
  (hx : a.eval x = .pointer (some ⟨b, j, none⟩)) (hy : a.eval y = v) (hb : Blk w b cur T) (hj : j < cur.size) (hv : v.cells = #[v]) (h1 : v.oneCell' = true)
  (h : ∀ w', Blk w' b (cur.setIfInBounds j v) T -> Wrote [b] w w' -> K (a.put o.dst undef) w') : o.wp P a w K Q := by
 have hr := run_store_cell (P := P) t T hs hb hj hv h1
 unfold Oper.wp execOp
 simp only [ho, hx, hy, Sem.run_bind, hr, Result.andThen_ok, Sem.run_pure]
 simp only [Oper.upon]
 exact h _ (setRow_heap w b cur _ T (0, 0) hb) (setRow_wrote b _)
theorem wpList_store_cell {ops : Array Oper} {rest : List Oper} {op : Oper} {a : Act} {Q : Exit -> Act -> World -> Prop} (hgd : op.guard = none) (t T : TypeId) (x y : Operand) (ho : op.op = .store t x y) (hs : ∀ w, (sizeOf t).run P w = .ok 1 w) (b j : Nat) (cur : Array Value) (v : Value)
  (hx : a.eval x = .pointer (some ⟨b, j, none⟩)) (hy : a.eval y = v) (hb : Blk w b cur T) (hj : j < cur.size) (hv : v.cells = #[v]) (h1 : v.oneCell' = true)
  (h : ∀ w', Blk w' b (cur.setIfInBounds j v) T -> Wrote [b] w w' -> wpList P ops Q rest (a.put op.dst undef) w') : wpList P ops Q (op :: rest) a w :=
 wpList_plain hgd fun _ hK => wp_store_cell t T x y ho hs b j cur v hx hy hb hj hv h1 fun w' hb' hw' => hK _ _ (h w' hb' hw')
end
theorem Wrote.andNew {M N : List Nat} {a b c : World} (h : Wrote M a b) (k : Wrote N b c) (hN : ∀ x ∈ N, a.heap.size <= x) : Wrote M a c :=
 ⟨k.os.trans h.os, k.tape.trans h.tape, k.output.trans h.output, Nat.le_trans h.size k.size, fun i hi hm => (k.block i (Nat.lt_of_lt_of_le hi h.size) (fun hx => by have := hN i hx; omega)).trans (h.block i hi hm)⟩
theorem results_ct1 {P : Program} {w : World} {fn : Func} {a b : Tmp} {t : TypeId} (h : fn.results = #[.cell a t, .tmp b]) {tmps : Array Value} {p : Addr} (hp : tmps.getD a undef = .pointer (some p)) {v x : Value} (hl : (loadVar t p).run P w = .ok v w) (hx : tmps.getD b undef = x) : (results fn tmps).run P w = .ok (.tuple #[v, x]) w := by
 rw [Array.getD_eq_getD_getElem?] at hp hx
 simp [results, h, hp, hx, asAddr, hl]
end
section
attribute [local go_sem] Oper.semAt_some
def stopV (z : Int) : Value := .iface 89 (.agg #[.int .i64 z])
def given (z : Int) : List PanicEntry := [{ v := stopV z, recovered := false }]
def ends (o : Option Int) (v : Value) : Ending := match o with
 | none => .returned v
 | some z => .panicked (given z)
theorem sc_must (b : Bool) (z : Int) (w : World) : Calls Tryz.prog 19 #[.bool b, .int .i64 z] w fun e w' => e = (if b then .returned (.tuple #[]) else .panicked (given z)) /\ w = w' := by
 cases b with
 | true =>
  go_enter Tryz.func19, Tryz.ntmps19
  go_wp2
  go_end0
  exact ⟨rfl, rfl⟩
 | false =>
  go_enter Tryz.func19, Tryz.ntmps19
  go_wp2
  exact ⟨rfl, rfl, rfl⟩
theorem stop_is (z : Int) (W : World) : (Instr.typeAssert (Value.iface 89 (Value.agg #[Value.int IntKind.i64 z])) 20 89 true).run Tryz.prog W = .ok (.tuple #[.agg #[.int .i64 z], .bool true]) W := by kernel_rfl
theorem sc_catch (g : Nat) (z : Int) (w : World) (h : Boxed w g 31 (.int .i64 0)) :
  CallsD Tryz.prog 40 #[.pointer (some ⟨g, 0, none⟩)] (.panicking (given z)) w fun e u' w' =>
   e = .returned (.tuple #[]) /\ u' = .panicking [{ v := stopV z, recovered := true }] /\ Boxed w' g 31 (.int .i64 z) /\ Below w.heap.size (w.setCell ⟨g, 0, none⟩ (.int .i64 z)) w' := by
 refine callsD_of_wpS Tryz.func40 rfl fun c₀ cs hu => ?_
 simp only [Tryz.ntmps40, List.size_toArray, List.length_cons, List.length_nil, Nat.reduceAdd, Nat.reduceSub, Array.replicate_succ, Array.replicate_zero, List.push_toArray, List.append_toArray, List.nil_append, List.cons_append]
 apply wpS_seq
 apply wpS_region
 simp [wpOpsS, go_sem, recoverD, hu, given, Tryz.ntmps40, Exit.thenS]
 refine wpS_of_wp ?_
 have h' := h.alloc (.cells #[.int .i64 z] 89)
 have k0 := h'.cell
 have f0 := h'.frozen
 have hl := h.lt
 unfold stopV
 have hta := stop_is z
 go_wp2
 refine ⟨rfl, _, rfl, .tuple #[], results_none rfl _ _ _, rfl, rfl, (h.set _).alloc _, (Below.refl _ _).alloc (by simp) _⟩
theorem sc_quiet (g : Nat) (w : World) :
  CallsD Tryz.prog 40 #[.pointer (some ⟨g, 0, none⟩)] .returning w fun e u' w' => e = .returned (.tuple #[]) /\ u' = .returning /\ w = w' := by
 refine callsD_of_wpS Tryz.func40 rfl fun c₀ cs hu => ?_
 simp only [Tryz.ntmps40, List.size_toArray, List.length_cons, List.length_nil, Nat.reduceAdd, Nat.reduceSub, Array.replicate_succ, Array.replicate_zero, List.push_toArray, List.append_toArray, List.nil_append, List.cons_append]
 apply wpS_seq
 apply wpS_region
 simp [wpOpsS, go_sem, recoverD, hu, Tryz.ntmps40, Exit.thenS]
 refine wpS_of_wp ?_
 go_wp2
 refine ⟨rfl, .returning, by cases c₀; simp_all, .tuple #[], results_none rfl _ _ _, rfl, rfl, rfl⟩
theorem sc_guard (f : FuncId) (cap : Array Value) (R : Option Int -> World -> Prop) (w : World) (he : ∀ args W, (callFunc f args).run Tryz.prog W = .ok (.enter f args) W)
  (h : Calls Tryz.prog f cap (w.alloc (.cells #[.int .i64 0] 31)) fun e w' => ∃ o, e = ends o (.tuple #[]) /\ R o w' /\ Boxed w' w.heap.size 31 (.int .i64 0)) :
  Calls Tryz.prog 17 #[.func (.func f) #[] cap] w fun e w' => ∃ o w1, e = .returned (.int .i64 (o.getD 0)) /\ R o w1 /\ Below w1.heap.size (w1.setCell ⟨w.heap.size, 0, none⟩ (.int .i64 (o.getD 0))) w' /\ w.heap.size < w1.heap.size := by
 have hmf : ∀ (fn : Fn) (first cap : Array Value) (w : World), (Instr.makeFunc fn first cap).run Tryz.prog w = .ok (.func fn first cap) w := fun _ _ _ _ => rfl
 go_enter_defers Tryz.func17, Tryz.ntmps17
 go_wp2_with fail
 refine h.mono ?_
 rintro e w1 ⟨o, rfl, hR, hb⟩
 have hl := hb.lt
 cases o with
 | none =>
  unfold ends
  have k0 := hb.cell
  have f0 := hb.frozen
  go_wp2_with fail
  refine leaves_cons (f := 40) (args := #[.pointer (some ⟨w.heap.size, 0, none⟩)]) (by simp) (by simp [go_sem]) ?_
  refine (sc_quiet _ _).mono ?_
  rintro e u' w2 ⟨rfl, rfl, rfl⟩
  simp only [Leaves, settle]
  have k1 := (hb.set (.int .i64 0)).cell
  refine ⟨_, results_cell1 rfl rfl (by simp [go_sem, k1, loadVar]), ⟨none, w1, rfl, hR, Below.refl _ _, hl⟩⟩
 | some z =>
  unfold ends
  go_wp2_with fail
  refine leaves_cons (f := 40) (args := #[.pointer (some ⟨w.heap.size, 0, none⟩)]) (by simp) (by simp [go_sem]) ?_
  refine (sc_catch _ z _ hb).mono ?_
  rintro e u' w2 ⟨rfl, rfl, hb2, hbel⟩
  simp only [Leaves, settle, List.dropWhile]
  have k1 := hb2.cell
  refine ⟨_, results_cell1 rfl rfl (by simp [go_sem, k1, loadVar]), ⟨some z, w1, rfl, hR, hbel, hl⟩⟩
end
section
theorem ob_rebase2 {w : World} {B : Nat} {L : Lay} {s : OS} (h : OB w B L s [] []) (hn : L.vp = .slice none 0 0 /\ L.vc = .slice none 0 0) : OB w w.heap.size L s [] [] := by
 obtain ⟨p, ib, sb, vl, vp, vc, rb, W⟩ := L
 dsimp only at hn
 obtain ⟨rfl, rfl⟩ := hn
 exact OB.rebase (L := ⟨p, ib, sb, vl, .slice none 0 0, .slice none 0 0, rb, W⟩) h (Nat.le_refl _)
end
section
section
variable {P : Program} {w : World} {t e : TypeId} {z : Value} {size bytes : Nat}
theorem run_append_m (ty : TypeId) (E : ElemT P t e z size bytes) (hsz : 0 < size) (base : Nat) (v : Value) (n : Nat) (xs : List Value) (hown : w.ownsRow base e size v n xs)
  (a : Addr) (m c : Nat) (hm1 : 0 < m) (news : List Value) (hl : news.length = m * size) (hnews : ∀ j u, news[j]? = some u -> w.cell? (a.add j) = some u) (h1 : ∀ u ∈ news, u.oneCell' = true)
  (h63 : n + m < 100000000) (hbytes : (n + m) * bytes <= 140737488355328) (hbase : base <= w.heap.size) :
  ∃ v' w', (Builtin.append_ #[t, t] ty #[v, .slice (some a) m c]).run P w = .ok v' w' /\ w'.ownsRow base e size v' (n + m) (xs ++ news) /\ w.grownBy w' v.ownBlock /\ (∀ k, v'.ownBlock = some k -> v.ownBlock = some k \/ w.heap.size <= k) := by
 obtain ⟨i, hi, hz0, hz1, hz2⟩ := info_parts E.info
 have hm : n + m <= maxLen := by unfold maxLen; omega
 obtain ⟨v', w', hr, h2, h3, _⟩ := run_append_own (P := P) w base t ty e i z size bytes E.ht hi hz0 hz1 hz2 E.hzs hsz v n xs hown a m c news hl hnews h1 hm hbytes hbase
 refine ⟨v', w', hr, h2, h3, fun k hk => ?_⟩
 have hl2 : news.length = m * i.size := by rw [hz1]; exact hl
 rcases hown.2 with ⟨rfl, rfl⟩ | ⟨g, cap, cur, rfl, hbg, hg, hnc, hcm, hcs, htake⟩
 ·have hr2 := run_append_nil (P := P) w t ty e i z E.ht hi hz0 a m c news hl2 hnews (by omega) (by omega) (by rw [hz2]; simp at hbytes; omega)
  rw [hr] at hr2
  cases hr2
  simp [Value.ownBlock] at hk
  exact .inr (by omega)
 ·by_cases hroom : n + m <= cap
  ·have hfit : n * i.size + news.length <= cur.size := by rw [hl, hcs, hz1, <- Nat.add_mul]; exact Nat.mul_le_mul_right _ hroom
   have hr2 := run_append_room (P := P) w t ty e i E.ht hi g n cap cur hg a m c news hl2 hnews h1 hroom hfit
   rw [hr] at hr2
   cases hr2
   exact .inl hk
  ·have holds : ∀ j u, xs[j]? = some u -> w.cell? ((⟨g, 0, none⟩ : Addr).add j) = some u := hown.cells (g := g) rfl
   have hr2 := run_append_grow (P := P) w t ty e i z E.ht hi hz0 ⟨g, 0, none⟩ n cap xs (by rw [hz1]; exact hown.1) holds a m c news hl2 hnews (by omega) (by unfold maxLen at hm; omega) (growslice_fits (by omega) (by rw [hz2]; exact hbytes))
   rw [hr] at hr2
   cases hr2
   simp [Value.ownBlock] at hk
   exact .inr (by omega)
theorem run_append_none (ty : TypeId) (E : ElemT P t e z size bytes) (base : Nat) (v : Value) (n : Nat) (xs : List Value) (hown : w.ownsRow base e size v n xs) (c : Nat) (a : Option Addr) (ha : a = none \/ ∃ g, a = some ⟨g, 0, none⟩) :
  (Builtin.append_ #[t, t] ty #[v, .slice a 0 c]).run P w = .ok v w := by
 obtain ⟨i, hi, hz0, hz1, hz2⟩ := info_parts E.info
 have hn : ∃ b cap, v = .slice b n cap /\ n <= cap := by
  rcases hown.2 with ⟨rfl, rfl⟩ | ⟨g, cap, cur, rfl, _, _, hnc, _⟩
  ·exact ⟨none, 0, rfl, Nat.le_refl _⟩
  ·exact ⟨_, _, rfl, hnc⟩
 obtain ⟨b, cap, rfl, hle⟩ := hn
 rcases ha with rfl | ⟨g, rfl⟩
 ·cases b <;> simp [Builtin.append_, run_underlying E.ht, sizeOf, typeInfo, hi, Builtin.lenOf, hle, run_firstCells_none, storeCells]
 ·have hf := run_firstCells_some (P := P) w i.size 0 ⟨g, 0, none⟩ 0 c [] (by simp) (by simp)
  cases b <;> simp [Builtin.append_, run_underlying E.ht, sizeOf, typeInfo, hi, Builtin.lenOf, hle, hf, storeCells]
theorem run_append_rows (ty : TypeId) (E : ElemT P t e z size bytes) (hsz : 0 < size) (base : Nat) (v : Value) (n : Nat) (xs : List Value) (hown : w.ownsRow base e size v n xs)
  (base2 : Nat) (u : Value) (m : Nat) (ys : List Value) (hsrc : w.ownsRow base2 e size u m ys) (h1 : ∀ u ∈ ys, u.oneCell' = true)
  (h63 : n + m < 100000000) (hbytes : (n + m) * bytes <= 140737488355328) (hbase : base <= w.heap.size) :
  ∃ v' w', (Builtin.append_ #[t, t] ty #[v, u]).run P w = .ok v' w' /\ w'.ownsRow base e size v' (n + m) (xs ++ ys) /\ w.grownBy w' v.ownBlock /\ (∀ k, v'.ownBlock = some k -> v.ownBlock = some k \/ w.heap.size <= k) := by
 rcases Nat.eq_zero_or_pos m with rfl | hm
 ·have hy : ys = [] := List.eq_nil_of_length_eq_zero (by simpa using hsrc.1)
  subst hy;obtain ⟨a, c, rfl⟩ := own_slice hsrc
  have ha : a = none \/ ∃ g, a = some ⟨g, 0, none⟩ := by
   rcases hsrc.2 with ⟨he, _⟩ | ⟨g, cap, cur, he, _⟩
   ·cases he; exact .inl rfl
   ·cases he; exact .inr ⟨g, rfl⟩
  refine ⟨v, w, run_append_none ty E base v n xs hown c a ha, by simpa using hown, World.grownBy.refl _ _, fun k hk => .inl hk⟩
 ·have hcells := fun g => hsrc.cells (g := g)
  rcases hsrc.2 with ⟨rfl, rfl⟩ | ⟨g, cap, cur, rfl, _⟩
  ·have := hsrc.1; simp at this
   rcases this with h | h <;> omega
  ·exact run_append_m ty E hsz base v n xs hown ⟨g, 0, none⟩ m cap hm ys hsrc.1 (hcells g rfl) h1 h63 hbytes hbase
theorem wp_append_rows {o : Oper} {a : Act} {K : Act -> World -> Prop} {Q : Exit -> Act -> World -> Prop} (s x : Operand)
  (ho : o.op = .call { callee := .builtin .append, args := #[s, x], argTypes := #[t, t] }) (E : ElemT P t e z size bytes) (hsz : 0 < size)
  (base : Nat) (v : Value) (n : Nat) (xs : List Value) (hs : a.eval s = v) (hown : w.ownsRow base e size v n xs) (base2 : Nat) (u : Value) (m : Nat) (ys : List Value) (hx : a.eval x = u) (hsrc : w.ownsRow base2 e size u m ys) (h1 : ∀ u ∈ ys, u.oneCell' = true)
  (h63 : n + m < 100000000) (hbytes : (n + m) * bytes <= 140737488355328) (hbase : base <= w.heap.size)
  (h : ∀ v' w', w'.ownsRow base e size v' (n + m) (xs ++ ys) -> w.grownBy w' v.ownBlock -> (∀ k, v'.ownBlock = some k -> v.ownBlock = some k \/ w.heap.size <= k) -> K (a.put o.dst v') w') : o.wp P a w K Q := by
 obtain ⟨v', w', hr, h2, h3, h4⟩ := run_append_rows (P := P) (w := w) o.type E hsz base v n xs hown base2 u m ys hsrc h1 h63 hbytes hbase
 unfold Oper.wp execOp
 simp only [ho, resolve, invoke, builtin, Sem.run_bind, Sem.run_pure, Result.andThen_ok, List.map_toArray, List.map_cons, List.map_nil, hs, hx, hr]
 exact h v' w' h2 h3 h4
end
end
section
theorem below_drewN' (w : World) (n : Nat) : Below w.heap.size w (w.drewN n) := by
 induction n with
 | zero => exact Below.refl _ _
 | succ n ih => exact ih.drew
theorem utf8_ValidRune (r : Int) (w : World) :
  Calls Tryz.prog 302 #[.int .i32 r] w fun e w' => (e = .returned (.bool (Utf8.valid r))) /\ w = w' := by
 by_cases h1 : 0 <= r
 ·by_cases h2 : r < 55296
  ·have hv : Utf8.valid r = true := by unfold Utf8.valid; simp; omega
   go_enter Tryz.func302, Tryz.ntmps302
   go_wp2
   go_ret
   simp [hv]
  ·have d2 : decide (r < 55296) = false := decide_eq_false h2
   by_cases h3 : 57343 < r
   ·by_cases h4 : r <= 1114111
    ·have hv : Utf8.valid r = true := by unfold Utf8.valid; simp; omega
     go_enter Tryz.func302, Tryz.ntmps302
     go_wp2
     go_ret
     simp [hv]
    ·have d4 : decide (r <= 1114111) = false := decide_eq_false h4
     have hv : Utf8.valid r = false := by unfold Utf8.valid; simp; omega
     go_enter Tryz.func302, Tryz.ntmps302
     go_wp2
     go_ret
     simp [hv]
   ·have d3 : decide (57343 < r) = false := decide_eq_false h3
    have hv : Utf8.valid r = false := by unfold Utf8.valid; simp; omega
    go_enter Tryz.func302, Tryz.ntmps302
    go_wp2
    go_ret
    simp [hv]
 ·have d1 : decide (0 <= r) = false := decide_eq_false h1
  have d3 : decide (57343 < r) = false := decide_eq_false (by omega)
  have hv : Utf8.valid r = false := by unfold Utf8.valid; simp; omega
  go_enter Tryz.func302, Tryz.ntmps302
  go_wp2
  go_ret
  simp [hv]
theorem idxRune_high (r : Int) (w : World) (h128 : 128 <= r) :
  Calls Tryz.prog 280 #[.string ⟨#[43, 35]⟩, .int .i32 r] w fun e w' => e = .returned (.int .i64 (-1)) /\ Below w.heap.size w w' := by
 have d1 : decide (r < 128) = false := decide_eq_false (by omega)
 by_cases he : r = 65533
 ·subst he
  go_enter Tryz.func280, Tryz.ntmps280
  go_wp2
  go_loopg [5, 6] 2 (fun g _ _ wx => ∃ i : Nat, i + g = 2 /\ wx = w.iter ⟨#[43, 35]⟩ i)
  case atStart => exact ⟨0, by omega, rfl⟩
  case round =>
   obtain ⟨i, hig, rfl⟩ := hrel
   cases gk with
   | zero =>
    obtain rfl : i = 2 := by omega
    have hnx := fun ty => run_next_end (P := Tryz.prog) w ⟨#[43, 35]⟩ 2 ty (by decide)
    go_wp2
    go_ret
    exact ⟨rfl, (Below.refl _ _).alloc (Nat.le_refl _) _⟩
   | succ g =>
    have hi : i = 0 \/ i = 1 := by omega
    rcases hi with rfl | rfl
    ·have hnx := fun ty => run_next_ascii (P := Tryz.prog) w ⟨#[43, 35]⟩ 0 ty (by decide) (by decide)
     go_wp2
     go_roundg g
     case measure => omega
     case rel => exact ⟨1, by omega, rfl⟩
    ·have hnx := fun ty => run_next_ascii (P := Tryz.prog) w ⟨#[43, 35]⟩ 1 ty (by decide) (by decide)
     go_wp2
     go_roundg g
     case measure => omega
     case rel => exact ⟨2, by omega, rfl⟩
 ·have d2 : (r == 65533) = false := by simpa using he
  have CV := hid (utf8_ValidRune r)
  cases hv : Utf8.valid r with
  | false =>
   rw [hv] at CV
   go_enter Tryz.func280, Tryz.ntmps280
   go_wp2_with (go_at_call 302; refine (CV.out _).mono ?_; rintro e w1 ⟨rfl, rfl⟩)
   go_ret
   exact ⟨rfl, Below.refl _ _⟩
  | true =>
   rw [hv] at CV
   obtain ⟨g1, g2, g3⟩ := encode_facts r hv h128
   obtain ⟨E, hE⟩ : ∃ E, Utf8.encode r = E := ⟨_, rfl⟩
   rw [hE] at g1 g2 g3
   have hE := hid hE;by_cases hs2 : E.size = 2
   ·have IB : Hid (∀ (s : ByteArray) (c : Int) (w : World), Calls Tryz.prog 301 #[.string s, .int .u8 c] w fun e w' => e = .returned (.int .i64 (Lib.indexByte s.data.toList c.toNat.toUInt8)) /\ w' = w) := hid fun s c w => Any.strings_IndexByte { Tryz.lays152 with } s c w
    have g4 : ∀ h, 128 <= ((E[1]'h).toNat : Int) := fun h => by
     have := g3 (by omega)
     have e : E.size - 1 = 1 := by omega
     simp only [e] at this
     omega
    obtain ⟨c, hc⟩ : ∃ c : Int, ((E[1]'(by omega)).toNat : Int) = c := ⟨_, rfl⟩
    have g5 : ∀ h, ((E[1]'h).toNat : Int) = c := fun h => hc
    have hcb := g4 (by omega)
    rw [hc] at hcb
    have nb : ∀ h, (⟨#[43, 35]⟩ : ByteArray)[1]'h = 35 := fun _ => rfl
    have n0 : ((35 : Int) != c) = true := by simp; omega
    have nc : ((35 : UInt8).toNat : Int) = 35 := rfl
    have hsz : (E.size : Int) = 2 := by omega
    clear g1 g2 g3 g4 hc;go_enter Tryz.func280, Tryz.ntmps280
    go_wp2_with (go_at_call 302; refine (CV.out _).mono ?_; rintro e w1 ⟨rfl, rfl⟩)
    refine wp_scope_straight ?_
    go_wp2
    go_loopw [9, 10] (fun i f wr => i = .int .i64 1 /\ f = .int .i64 0 /\ wr = w) (fun _ _ _ => 0)
    case atStart => exact ⟨rfl, rfl, rfl⟩
    case round =>
     obtain ⟨rfl, rfl, rfl⟩ := hrel
     go_wp2
     refine wp_scope_straight ?_
     go_wp2
     go_quiet (fail)
     go_wp2
     have hw2 : IntKind.i64.wrap 2 = 2 := by decide
     have hsl : ∀ W : World, (Instr.slice 9 (.string ⟨#[43, 35]⟩) (some (.int .i64 2)) none none).run Tryz.prog W = .ok (.string ⟨#[]⟩) W := fun W => by kernel_rfl
     have hii : Lib.indexByte [] c.toNat.toUInt8 = -1 := rfl
     go_quiet ((refine (IB.out _ _ _).mono fun e w' h => ⟨h.1, _, h.2⟩))
     go_wp2
     rw [Exit.noGoto_ret]
     go_wp2
     rw [Exit.noGoto_ret]
     go_ret
     exact ⟨rfl, below_drewN' _ _⟩
   ·have hge : (2 : Int) < (E.size : Int) := by omega
    have hge4 : (E.size : Int) <= 4 := by omega
    obtain ⟨n, hn⟩ : ∃ n : Int, (E.size : Int) = n := ⟨_, rfl⟩
    rw [hn] at hge hge4
    have d3 : decide (n - 1 < 2) = false := decide_eq_false (by omega)
    have hw : wrap64 (n - 1) = n - 1 := by unfold wrap64; omega
    clear g1 g2 g3;go_enter Tryz.func280, Tryz.ntmps280
    go_wp2_with (go_at_call 302; refine (CV.out _).mono ?_; rintro e w1 ⟨rfl, rfl⟩)
    refine wp_scope_straight ?_
    go_wp2
    go_loopw [9, 10] (fun i f wr => i = .int .i64 (n - 1) /\ f = .int .i64 0 /\ wr = w) (fun _ _ _ => 0)
    case atStart => exact ⟨rfl, rfl, rfl⟩
    case round =>
     obtain ⟨rfl, rfl, rfl⟩ := hrel
     go_wp2
     rw [Exit.noGoto_ret]
     go_ret
     exact ⟨rfl, Below.refl _ _⟩
theorem decode_step (s : ByteArray) (i : Nat) (h : i < s.size) (ha : 128 <= (s[i]'h).toNat) :
  1 <= (Utf8.decode s i).2 /\ i + (Utf8.decode s i).2 <= s.size /\ ∀ j b, i <= j -> j < i + (Utf8.decode s i).2 -> s.data.toList[j]? = some b -> 128 <= b.toNat := by
 have hat : ∀ k b, s.data.toList[i + k]? = some b -> (s.get! (i + k)) = b := fun k b hb => by
  have hlt : i + k < s.size := by rw [Lib.size_eq]; exact (List.getElem?_eq_some_iff.1 hb).1
  have := Lib.data_getElem? s (i + k) hlt
  rw [this] at hb
  simp only [Option.some.injEq] at hb
  rw [<- hb]
  simp [ByteArray.get!, getElem!_pos, hlt]
  rfl
 have cont : ∀ k, (s.get! (i + k)).toNat / 64 = 2 -> 128 <= (s.get! (i + k)).toNat := fun k h => by omega
 have key : ∀ d, (∀ k, 1 <= k -> k < d -> i + k < s.size /\ (s.get! (i + k)).toNat / 64 = 2) -> 1 <= d -> 1 <= d /\ i + d <= s.size /\ ∀ j b, i <= j -> j < i + d -> s.data.toList[j]? = some b -> 128 <= b.toNat := by
  intro d hk hd
  refine ⟨hd, ?_, fun j b h1 h2 hb => ?_⟩
  ·rcases Nat.lt_or_ge 1 d with h1 | h1
   ·have := (hk (d - 1) (by omega) (by omega)).1; omega
   ·omega
  ·obtain ⟨k, rfl⟩ : ∃ k, j = i + k := ⟨j - i, by omega⟩
   rcases Nat.eq_zero_or_pos k with h0 | h0
   ·subst h0
    have := hat 0 b hb
    rw [get_at s i h] at this
    rw [<- this]; exact ha
   ·rw [<- hat k b hb]; exact cont k (hk k h0 (by omega)).2
 have one : 1 <= 1 /\ i + 1 <= s.size /\ ∀ j b, i <= j -> j < i + 1 -> s.data.toList[j]? = some b -> 128 <= b.toNat := key 1 (fun k h1 h2 => by omega) (Nat.le_refl _)
 have hn : ¬ (s[i]'h).toNat < 128 := by omega
 unfold Utf8.decode
 simp only [get_at s i h, hn, if_false]
 split
 ·rename_i hc
  simp only [Bool.and_eq_true, beq_iff_eq, decide_eq_true_eq] at hc
  split
  ·exact key 2 (fun k h1 h2 => by obtain rfl : k = 1 := by omega
                                  exact hc.2) (by omega)
  ·exact one
 ·split
  ·rename_i hc
   simp only [Bool.and_eq_true, beq_iff_eq, decide_eq_true_eq] at hc
   split
   ·exact key 3 (fun k h1 h2 => by
     rcases (by omega : k = 1 \/ k = 2) with rfl | rfl
     ·exact hc.1.2
     ·exact hc.2) (by omega)
   ·exact one
  ·split
   ·rename_i hc
    simp only [Bool.and_eq_true, beq_iff_eq, decide_eq_true_eq] at hc
    split
    ·exact key 4 (fun k h1 h2 => by
      rcases (by omega : k = 1 \/ k = 2 \/ k = 3) with rfl | rfl | rfl
      ·exact hc.1.1.2
      ·exact hc.1.2
      ·exact hc.2) (by omega)
    ·exact one
   ·exact one
theorem noAny_step {s : List UInt8} {i d : Nat} (h : Lib.NoAny s [43, 35] i) (hk : ∀ j b, i <= j -> j < i + d -> s[j]? = some b -> 128 <= b.toNat) : Lib.NoAny s [43, 35] (i + d) := fun j b hj hb => by
 rcases Nat.lt_or_ge j i with h1 | h1
 ·exact h j b h1 hb
 ·have := hk j b h1 hj hb
  have h2 : b ≠ 43 := fun e => by subst e; simp at this
  have h3 : b ≠ 35 := fun e => by subst e; simp at this
  simp [h2, h3]
theorem idxAny_short (s : ByteArray) (w : World) (h8 : s.size <= 8) :
  Calls Tryz.prog 240 #[.string s, .string ⟨#[43, 35]⟩] w fun e w' => e = .returned (.int .i64 (Lib.indexAny s.data.toList [43, 35])) /\ Below w.heap.size w w' := by
 have h8z : decide ((8 : Int) < (s.size : Int)) = false := decide_eq_false (by omega)
 have hsc : Hid (∀ (n : Int) (w : World), Calls Tryz.prog 281 #[.int .i64 n] w fun e w' => e = .returned (.bool (decide (8 < n))) /\ w' = w) := hid fun n w => Any.strings_shouldUseASCIISet { Tryz.lays153 with } n w
 have IR : Hid (∀ (r : Int) (w : World), 0 <= r -> r < 128 -> Calls Tryz.prog 280 #[.string ⟨#[43, 35]⟩, .int .i32 r] w fun e w' => e = .returned (.int .i64 (Lib.indexByte [43, 35] r.toNat.toUInt8)) /\ w' = w) := hid fun r w h0 h1 => Any.strings_IndexRune_ascii { Tryz.lays152 with } _ _ _ h0 h1
 have IH := hid idxRune_high;go_enter Tryz.func240, Tryz.ntmps240
 go_wp2_with (go_at_call 281; refine (hsc.out _ _).mono ?_; rintro e w' ⟨rfl, hw⟩; rw [hw, h8z])
 go_loopg [9, 10] s.size (fun g _ _ wx => ∃ i : Nat, i + g = s.size /\ Below w.heap.size w wx /\ wx.heap[w.heap.size]? = some (.stringIter s i) /\ Lib.NoAny s.data.toList [43, 35] i)
 case atStart => exact ⟨0, by omega, (Below.refl _ _).alloc (Nat.le_refl _) _, World.iter_heap _ _ _, Lib.NoAny.zero _ _⟩
 case round =>
  obtain ⟨i, hig, hbx, hit, hno⟩ := hrel
  have hbx := hid hbx;have hno := hid hno;have hit := hid hit;cases gk with
  | zero =>
   obtain rfl : i = s.size := by omega
   have hnx := fun ty => Lib.run_next_end_at (P := Tryz.prog) wr w.heap.size s s.size ty hit.out (Nat.lt_irrefl _)
   go_wp2
   go_ret
   exact ⟨by rw [Lib.indexAny_none (by rw [<- Lib.size_eq]; exact hno.out)]; rfl, hbx.out⟩
  | succ g =>
   have hi : i < s.size := by omega
   obtain ⟨x, hx⟩ : ∃ x : UInt8, s[i]'hi = x := ⟨_, rfl⟩
   have hxl := hid (show s.data.toList[i]? = some x by rw [<- hx]; exact Lib.data_getElem? s i hi)
   by_cases hx128 : x.toNat < 128
   ·have hnx := fun ty => Lib.run_next_ascii_at (P := Tryz.prog) wr w.heap.size s i ty hit.out hi (by rw [hx]; exact hx128)
    rw [hx] at hnx
    clear hx;have hcon := Lib.contains_iff_indexByte [43, 35] x
    have hback : ((x.toNat : Int)).toNat.toUInt8 = x := by simp
    cases hin : ([43, 35] : List UInt8).contains x with
    | false =>
     rw [hin] at hcon
     have hlt : ¬ ((0 : Int) <= Lib.indexByte [43, 35] x) := of_decide_eq_false hcon.symm
     clear hcon;have hin := hid hin;go_wp2_with (go_at_call 280; refine (IR.out _ _ (by omega) (by omega)).mono ?_; rintro e w' ⟨rfl, hw⟩; rw [hw, hback])
     go_roundg g
     case measure => omega
     case rel => exact ⟨i + 1, by omega, Lib.below_iterAt hbx.out (Nat.le_refl _) _ _, Lib.iterAt_heap _ _ _ _ _ hit.out, hno.out.succ hxl.out hin.out⟩
    | true =>
     rw [hin] at hcon
     have hge : (0 : Int) <= Lib.indexByte [43, 35] x := of_decide_eq_true hcon.symm
     clear hcon;have hin := hid hin;go_wp2_with (go_at_call 280; refine (IR.out _ _ (by omega) (by omega)).mono ?_; rintro e w' ⟨rfl, hw⟩; rw [hw, hback])
     go_ret
     exact ⟨by rw [Lib.indexAny_hit hno.out hxl.out hin.out]; rfl, Lib.below_iterAt hbx.out (Nat.le_refl _) _ _⟩
   ·have hnx := fun ty => Lib.run_next_any_at (P := Tryz.prog) wr w.heap.size s i ty hit.out hi
    obtain ⟨r, d, hd⟩ : ∃ r d, Utf8.decode s i = (r, d) := ⟨_, _, rfl⟩
    have hh := decode_high s i hi (by rw [hx]; omega)
    rw [hd] at hnx hh
    dsimp only at hnx hh
    have hr : (128 : Int) <= (r : Int) := by omega
    obtain ⟨k1, k2, k3⟩ := decode_step s i hi (by rw [hx]; omega)
    rw [hd] at k1 k2 k3
    dsimp only at k1 k2 k3
    have k3 := hid k3;have hd := hid hd;clear hx;go_wp2_with (go_at_call 280; refine (IH.out _ _ (by omega)).mono ?_; rintro e w' ⟨rfl, hw⟩)
    have hlt : w.heap.size < wr.heap.size := (Array.getElem?_eq_some_iff.1 hit.out).1
    have hsz := Lib.iterAt_size wr w.heap.size s (i + d)
    go_roundg (g + 1 - d)
    case measure => omega
    case rel => exact ⟨i + d, by omega, (Lib.below_iterAt hbx.out (Nat.le_refl _) _ _).trans (hw.mono (by omega)), (hw.block _ (by omega)).trans (Lib.iterAt_heap _ _ _ _ _ hit.out), noAny_step hno.out k3⟩
theorem anyOK (s : List UInt8) (hs : s.length < 4294967281) : AnyOK s := fun w => by
 have hsz : ByteArray.size ⟨s.toArray⟩ = s.length := by simp [ByteArray.size]
 have CI : Hid (Calls Tryz.prog 240 #[.string ⟨s.toArray⟩, .string ⟨#[43, 35]⟩] w fun e w' => e = .returned (.int .i64 (Lib.indexAny s [43, 35])) /\ Below w.heap.size w w') := hid <| by
  by_cases h8 : s.length <= 8
  ·exact idxAny_short ⟨s.toArray⟩ w (by omega)
  ·refine (Any.strings_IndexAny_long Tryz.lays153 (zero_of_info (v := .agg (Array.replicate 256 (.bool false))) (n := 256) (by kernel_rfl)).1 (zero_of_info (v := .agg (Array.replicate 256 (.bool false))) (n := 256) (by kernel_rfl)).2 ⟨s.toArray⟩ ⟨#[43, 35]⟩ w (by decide) (by omega) (by omega) (by decide) (fun j b h => ?_)).mono fun e w' ⟨h1, h2⟩ => ⟨h1, ?_⟩
   ·rcases j with _ | _ | j <;> simp at h <;> subst h <;> decide
   ·rw [h2]
    exact ((Below.refl _ _).alloc (Nat.le_refl _) _).alloc (by simp) _
 go_enter Tryz.func192, Tryz.ntmps192
 go_wp2_with (go_at_call 240; refine CI.out.mono ?_; rintro e w' ⟨rfl, hw⟩)
 go_ret
 exact ⟨rfl, hw⟩
end
end Go.Proofs.YtkghejaimhoboaaGreatDoor
