/- Contracts of package outbox (part 6): publish, behind, first, waits. · Contracts of package outbox (part 7): first. · A range over a function, where the iterator relies on what the caller's own invariant says of memory. No program in sight. · Contracts of package outbox (part 8): the iterator of the rows that wait. · Contracts of package outbox (part 9): what sending does, plainly; a row that is sent. -/
import Derived.Great.BuildSlice
import Derived.Test.YtoinabapaeebfaaGreatDoorPk07
import Derived.Test.YtoinabapaeebfaaGreatDoorPk05
import Derived.Deep.LoopGhost
import Derived.Test.YtoinabapaeebfaaGreatDoorPk02
set_option linter.unusedSimpArgs false
set_option linter.unusedVariables false
namespace Go.Proofs.YtoinabapaeebfaaGreatDoor
open Go.RowKit Go.Shelf

section
variable {P : Program} {w : World}
theorem setRow_wrote (b : Nat) (cs : Array Value) : Wrote [b] w (w.setRow b cs) := ⟨rfl, rfl, rfl, by simp [World.setRow], fun k _ hk => setRow_other w b k cs (fun e => hk (by simp [e]))⟩
theorem run_store_whole (t T : TypeId) (n : Nat) (hs : ∀ w, (sizeOf t).run P w = .ok n w) {b : Nat} {cur cs : Array Value} (hb : Blk w b cur T) (h1 : cs.size = n) (h2 : cur.size = n) (ho1 : ∀ v ∈ cs.toList, v.oneCell' = true) :
    (Instr.storeAt t (.pointer (some ⟨b, 0, none⟩)) (.agg cs)).run P w = .ok () (w.setRow b cs) := by
  have hr := run_storeCells_at P b 0 T cs.toList 0 cur w hb (by simp; omega) ho1
  have e1 : (cur.toList.take (0 + 0) ++ cs.toList ++ cur.toList.drop (0 + 0 + cs.toList.length)).toArray = cs := by
    rw [List.drop_eq_nil_of_le (by simp; omega)]
    simp
  rw [e1] at hr
  have hc : (Value.agg cs).cells = cs := rfl
  simp [Instr.storeAt, Instr.sureAddr, storeVar, hs, hc, h1, hr]
theorem wp_store_whole {o : Oper} {a : Act} {K : Act → World → Prop} {Q : Exit → Act → World → Prop} (t T : TypeId) (x y : Operand) (ho : o.op = .store t x y) (n : Nat) (hs : ∀ w, (sizeOf t).run P w = .ok n w) (b : Nat) (cur cs : Array Value)
    (hx : a.eval x = .pointer (some ⟨b, 0, none⟩)) (hy : a.eval y = .agg cs) (hb : Blk w b cur T) (h1 : cs.size = n) (h2 : cur.size = n) (ho1 : ∀ v ∈ cs.toList, v.oneCell' = true)
    (h : ∀ w', Blk w' b cs T → Wrote [b] w w' → K (a.put o.dst undef) w') : o.wp P a w K Q := by
  have hr := run_store_whole (P := P) t T n hs hb h1 h2 ho1
  unfold Oper.wp execOp
  simp only [ho, hx, hy, Sem.run_bind, hr, Result.andThen_ok, Sem.run_pure]
  simp only [Oper.upon]
  exact h _ (setRow_heap w b cur cs T (0, 0) hb) (setRow_wrote b cs)
theorem results_cell1 {fn : Func} {a : Tmp} {t : TypeId} (h : fn.results = #[.cell a t]) {tmps : Array Value} {p : Addr} (hp : tmps.getD a undef = .pointer (some p)) {v : Value} (hl : (loadVar t p).run P w = .ok v w) : (results fn tmps).run P w = .ok v w := by
  rw [Array.getD_eq_getD_getElem?] at hp
  simp [results, h, hp, asAddr, hl]
theorem results_cell2 {fn : Func} {a u : Tmp} {t : TypeId} (h : fn.results = #[.cell a t, .tmp u]) {tmps : Array Value} {p : Addr} (hp : tmps.getD a undef = .pointer (some p)) {v x : Value} (hl : (loadVar t p).run P w = .ok v w) (hu : tmps.getD u undef = x) : (results fn tmps).run P w = .ok (.tuple #[v, x]) w := by
  rw [Array.getD_eq_getD_getElem?] at hp hu
  simp [results, h, hp, hu, asAddr, hl]
end

def RowV.pub (r : RowV) (dup : Bool) : PackV := ⟨3, dup, r.retain, r.qos, r.topic, r.body, r.id⟩

set_option maxRecDepth 100000 in
set_option maxHeartbeats 1000000 in
theorem out_publish (b : Nat) (r : RowV) (dup : Bool) (w : World) (h : Blk w b r.vals 33) :
    Calls Tryz.prog 102 #[.pointer (some ⟨b, 0, none⟩), .bool dup] w fun e w' => e = .returned (.agg (r.pub dup).cells.toArray) ∧ Below w.heap.size w w' := by
  have hb : b < w.heap.size := h.lt
  go_enter Tryz.func102, Tryz.ntmps102
  go_wp2
  refine regionQ [(1000, fun w' => w'.cell? ⟨b, 4, none⟩ = some (.string ⟨r.topic.toArray⟩)), (1000, fun w' => w'.cell? ⟨b, 5, none⟩ = some (.string ⟨r.body.toArray⟩)), (1000, fun w' => w'.cell? ⟨b, 6, none⟩ = some (.int .i64 r.qos)), (1000, fun w' => w'.cell? ⟨b, 7, none⟩ = some (.bool r.retain)), (1000, fun w' => w'.cell? ⟨b, 3, none⟩ = some (.int .i64 r.id))] (by kernel_rfl) ⟨(h.alloc _).cell 4, (h.alloc _).cell 5, (h.alloc _).cell 6, (h.alloc _).cell 7, (h.alloc _).cell 3, trivial⟩ fun KQ hKQ => ?_
  refine takeQ 0 rfl (by kernel_rfl) rfl (by kernel_rfl) fun K hK => ?_
  simp only [List.getElem_toArray, List.getElem_cons_zero, List.getElem_cons_succ]
  go_big_quiet_op
  refine hK _ ?_
  clear hK K
  refine nilQ 1 rfl (by kernel_rfl) (by kernel_rfl) rfl rfl ?_
  simp only [Act.put, List.getElem_toArray, List.getElem_cons_zero, List.getElem_cons_succ, List.setIfInBounds_toArray, List.set_cons_zero, List.set_cons_succ]
  refine takeQ 2 rfl (by kernel_rfl) rfl (by kernel_rfl) fun K hK => ?_
  simp only [List.getElem_toArray, List.getElem_cons_zero, List.getElem_cons_succ]
  go_big_quiet_op
  refine hK _ ?_
  clear hK K
  refine loadQ 3 rfl (by kernel_rfl) (by kernel_rfl) rfl rfl 0 rfl (by kernel_rfl) _ (fun w' hf => by (go_simp <;> with_reducible rfl)) ?_
  simp only [Act.put, List.getElem_toArray, List.getElem_cons_zero, List.getElem_cons_succ, List.setIfInBounds_toArray, List.set_cons_zero, List.set_cons_succ]
  refine takeQ 4 rfl (by kernel_rfl) rfl (by kernel_rfl) fun K hK => ?_
  simp only [List.getElem_toArray, List.getElem_cons_zero, List.getElem_cons_succ]
  go_big_quiet_op
  refine hK _ ?_
  clear hK K
  refine nilQ 5 rfl (by kernel_rfl) (by kernel_rfl) rfl rfl ?_
  simp only [Act.put, List.getElem_toArray, List.getElem_cons_zero, List.getElem_cons_succ, List.setIfInBounds_toArray, List.set_cons_zero, List.set_cons_succ]
  refine takeQ 6 rfl (by kernel_rfl) rfl (by kernel_rfl) fun K hK => ?_
  simp only [List.getElem_toArray, List.getElem_cons_zero, List.getElem_cons_succ]
  go_big_quiet_op
  refine hK _ ?_
  clear hK K
  refine loadQ 7 rfl (by kernel_rfl) (by kernel_rfl) rfl rfl 1 rfl (by kernel_rfl) _ (fun w' hf => by (go_simp <;> with_reducible rfl)) ?_
  simp only [Act.put, List.getElem_toArray, List.getElem_cons_zero, List.getElem_cons_succ, List.setIfInBounds_toArray, List.set_cons_zero, List.set_cons_succ]
  refine takeQ 8 rfl (by kernel_rfl) rfl (by kernel_rfl) fun K hK => ?_
  simp only [List.getElem_toArray, List.getElem_cons_zero, List.getElem_cons_succ]
  go_big_quiet_op
  refine hK _ ?_
  clear hK K
  refine nilQ 9 rfl (by kernel_rfl) (by kernel_rfl) rfl rfl ?_
  simp only [Act.put, List.getElem_toArray, List.getElem_cons_zero, List.getElem_cons_succ, List.setIfInBounds_toArray, List.set_cons_zero, List.set_cons_succ]
  refine takeQ 10 rfl (by kernel_rfl) rfl (by kernel_rfl) fun K hK => ?_
  simp only [List.getElem_toArray, List.getElem_cons_zero, List.getElem_cons_succ]
  go_big_quiet_op
  refine hK _ ?_
  clear hK K
  refine loadQ 11 rfl (by kernel_rfl) (by kernel_rfl) rfl rfl 2 rfl (by kernel_rfl) _ (fun w' hf => by (go_simp <;> with_reducible rfl)) ?_
  simp only [Act.put, List.getElem_toArray, List.getElem_cons_zero, List.getElem_cons_succ, List.setIfInBounds_toArray, List.set_cons_zero, List.set_cons_succ]
  refine takeQ 12 rfl (by kernel_rfl) rfl (by kernel_rfl) fun K hK => ?_
  simp only [List.getElem_toArray, List.getElem_cons_zero, List.getElem_cons_succ]
  go_big_quiet_op
  refine hK _ ?_
  clear hK K
  refine nilQ 13 rfl (by kernel_rfl) (by kernel_rfl) rfl rfl ?_
  simp only [Act.put, List.getElem_toArray, List.getElem_cons_zero, List.getElem_cons_succ, List.setIfInBounds_toArray, List.set_cons_zero, List.set_cons_succ]
  refine takeQ 14 rfl (by kernel_rfl) rfl (by kernel_rfl) fun K hK => ?_
  simp only [List.getElem_toArray, List.getElem_cons_zero, List.getElem_cons_succ]
  go_big_quiet_op
  refine hK _ ?_
  clear hK K
  refine loadQ 15 rfl (by kernel_rfl) (by kernel_rfl) rfl rfl 3 rfl (by kernel_rfl) _ (fun w' hf => by (go_simp <;> with_reducible rfl)) ?_
  simp only [Act.put, List.getElem_toArray, List.getElem_cons_zero, List.getElem_cons_succ, List.setIfInBounds_toArray, List.set_cons_zero, List.set_cons_succ]
  refine takeQ 16 rfl (by kernel_rfl) rfl (by kernel_rfl) fun K hK => ?_
  simp only [List.getElem_toArray, List.getElem_cons_zero, List.getElem_cons_succ]
  go_big_quiet_op
  refine hK _ ?_
  clear hK K
  refine nilQ 17 rfl (by kernel_rfl) (by kernel_rfl) rfl rfl ?_
  simp only [Act.put, List.getElem_toArray, List.getElem_cons_zero, List.getElem_cons_succ, List.setIfInBounds_toArray, List.set_cons_zero, List.set_cons_succ]
  refine takeQ 18 rfl (by kernel_rfl) rfl (by kernel_rfl) fun K hK => ?_
  simp only [List.getElem_toArray, List.getElem_cons_zero, List.getElem_cons_succ]
  go_big_quiet_op
  refine hK _ ?_
  clear hK K
  refine loadQ 19 rfl (by kernel_rfl) (by kernel_rfl) rfl rfl 4 rfl (by kernel_rfl) _ (fun w' hf => by (go_simp <;> with_reducible rfl)) ?_
  simp only [Act.put, List.getElem_toArray, List.getElem_cons_zero, List.getElem_cons_succ, List.setIfInBounds_toArray, List.set_cons_zero, List.set_cons_succ]
  refine takeQ 20 rfl (by kernel_rfl) rfl (by kernel_rfl) fun K hK => ?_
  simp only [List.getElem_toArray, List.getElem_cons_zero, List.getElem_cons_succ]
  go_big_quiet_op
  refine hK _ ?_
  clear hK K
  refine takeQ 21 rfl (by kernel_rfl) rfl (by kernel_rfl) fun K hK => ?_
  simp only [List.getElem_toArray, List.getElem_cons_zero, List.getElem_cons_succ]
  go_big_quiet_op
  refine hK _ ?_
  clear hK K
  refine stepQ 22 rfl (by kernel_rfl) (by decide) (by kernel_rfl) fun K hK => ?_
  simp only [List.getElem_toArray, List.getElem_cons_zero, List.getElem_cons_succ]
  refine wp_store_whole 81 81 _ _ rfl 24 Tryz.sizeOf81 w.heap.size _ _ rfl rfl (Blk.new w _ _).drew rfl rfl (by simp [Value.oneCell']) ?_
  intro w1 hb1 hw1
  have hh := ((h.alloc _).drew).wrote hw1 (by simp; omega)
  refine hK _ _ ⟨⟨fun _ => hh.cell 4, fun _ => hh.cell 5, fun _ => hh.cell 6, fun _ => hh.cell 7, fun _ => hh.cell 3, trivial⟩, ?_⟩
  clear hK K
  refine doneQ (by kernel_rfl) (hKQ.out _ _ ?_)
  clear hKQ KQ
  go_wp2
  refine bodyPost_ret (v := .agg (r.pub dup).cells.toArray) (results_cell1 Tryz.results102 (p := ⟨w.heap.size, 0, none⟩) rfl (run_loadVar_row (P := Tryz.prog) w1 w.heap.size 81 81 _ (0, 0) _ hb1 Tryz.underlying81 rfl (by kernel_rfl))) rfl ?_
  · refine ⟨rfl, ⟨hw1.os, hw1.tape, hw1.output, Nat.le_trans (by simp) hw1.size, fun k hk => (hw1.block k (by simp; omega) (by simp; omega)).trans (Below.heap_alloc _ _ _ hk)⟩⟩

set_option maxRecDepth 100000 in
set_option maxHeartbeats 400000 in
theorem out_behind (n : Int) (w : World) (h0 : 0 ≤ n) (h1 : n ≤ 65535) :
    Calls Tryz.prog 142 #[.int .i64 n, .int .i64 65535] w fun e w' => e = .returned (.int .i64 (n % 65535 + 1)) ∧ w = w' := by
  have q2 : n.tmod 65535 = n % 65535 := by rw [Int.tmod_eq_emod_of_nonneg (by omega)]
  have q3 : 0 ≤ n % 65535 := Int.emod_nonneg _ (by omega)
  have q4 : n % 65535 < 65535 := Int.emod_lt_of_pos _ (by omega)
  go_enter Tryz.func142, Tryz.ntmps142
  go_wp2
  go_ret
  simp

set_option maxRecDepth 100000 in
set_option maxHeartbeats 400000 in
theorem out_waits (p : Nat) (w : World) :
    Calls Tryz.prog 139 #[.pointer (some ⟨p, 0, none⟩)] w fun e w' => e = .returned (.func (.func 195) #[] #[.pointer (some ⟨w.heap.size, 0, none⟩)]) ∧ w.alloc (.cells #[.pointer (some ⟨p, 0, none⟩)] 26) = w' := by
  go_enter Tryz.func139, Tryz.ntmps139
  go_wp2
  go_ret
  exact ⟨rfl, rfl⟩

/-- The closure of send: is an ID free? -/
theorem out_send1 {w : World} {B : Nat} {L : Lay} {s : OS} {ps : List PackV} {cs : List ChangeV} (h : OB w B L s ps cs) (c : Nat) (hc : Boxed w c 26 (.pointer (some ⟨L.p, 0, none⟩))) (z : Int) (h0 : 1 ≤ z) (h1 : z ≤ 65535) :
    Calls Tryz.prog 141 #[.int .i64 z, .pointer (some ⟨c, 0, none⟩)] w fun e w' => e = .returned (.bool (!decide (z.toNat ∈ idsOf s.l))) ∧ Below w.heap.size w w' := by
  have k0 : w.cell? ⟨L.p, 0, none⟩ = some (.pointer (some ⟨L.ib, 0, none⟩)) := h.box.cell 0
  have k1 := hc.cell
  have CH := in_Has L.ib L.sb 100 L.W (idsOf s.l) z w h.inb h.set h0 h1
  go_enter Tryz.func141, Tryz.ntmps141
  go_wp2_with (go_at_call 111; refine CH.mono ?_; rintro e w1 ⟨rfl, hb⟩)
  go_ret
  exact ⟨rfl, hb⟩

theorem wp_slice_one {P : Program} {o : Oper} {a : Act} {w : World} {K : Act → World → Prop} {Q : Exit → Act → World → Prop} {t e : TypeId} {z : Value} {size bytes : Nat} (x : Operand) (ho : o.op = .buildSlice t 1 #[(0, x)]) (E : ElemT P t e z size bytes) (hs : 0 < size) (hs2 : size ≤ 100)
    (v : Value) (hx : a.eval x = v) (hv : v.cells.size = size) (h : K (a.put o.dst (.slice (some ⟨w.heap.size, 0, none⟩) 1 1)) (w.alloc (.cells v.cells e))) : o.wp P a w K Q := by
  obtain ⟨i, hi, hz0, hz1, hz2⟩ := info_parts E.info
  refine wp_buildSlice t e 1 #[(0, x)] ho v.cells i z E.ht hi hz0 (by rw [hz1]; omega) (by rw [hz1]; omega) ?_ h
  have hz3 := E.hzs
  have := Go.Great.fill_whole (s := size) hs [v] ((Array.range (1 * size)).map (z.cells[· % z.cells.size]!)) (by simp [hv]) (by simp)
  rw [hz1]
  simpa [hx] using this
end Go.Proofs.YtoinabapaeebfaaGreatDoor
namespace Go.Proofs.YtoinabapaeebfaaGreatDoor
open Go.RowKit Go.Shelf

set_option maxRecDepth 100000 in
set_option maxHeartbeats 400000 in
theorem out_first {w : World} {B : Nat} {L : Lay} {s : OS} {ps : List PackV} {cs : List ChangeV} (h : OB w B L s ps cs) (c : Nat) (hc : Boxed w c 26 (.pointer (some ⟨L.p, 0, none⟩))) (z : Int) (hz : 1 ≤ z ∧ z ≤ 65535) :
    Calls Tryz.prog 140 #[.int .i64 z, .int .i64 65535, .func (.func 141) #[] #[.pointer (some ⟨c, 0, none⟩)]] w fun e w' => e = .returned (.int .i64 (firstI (idsOf s.l).length z (idsOf s.l))) ∧ Below w.heap.size w w' := by
  obtain ⟨ids, hids⟩ : ∃ ids, idsOf s.l = ids := ⟨_, rfl⟩
  have hlen : ids.length < 65535 := by have h1 := h.ok.under; have h2 := h.ok.win; rw [hids] at h1; omega
  have CS := hid fun (w1 : World) (hb : Below w.heap.size w w1) (y : Int) (h0 : 1 ≤ y) (h1 : y ≤ 65535) => out_send1 (h.below hb) c (boxed_below hc hb) y h0 h1
  rw [hids] at CS ⊢
  obtain ⟨Y, hY⟩ : ∃ Y, firstI ids.length z ids = Y := ⟨_, rfl⟩
  have hfree : Y.toNat ∉ ids := by rw [← hY]; exact firstI_free z ids hz hlen
  rw [hY]
  go_enter Tryz.func140, Tryz.ntmps140
  go_wp2
  go_loopg [0] ids.length (fun g v wr => ∃ (y : Int), v = .int .i64 y ∧ (1 ≤ y ∧ y ≤ 65535) ∧ Hid (firstI g y ids = Y) ∧ Below w.heap.size w wr)
  case atStart => exact ⟨z, rfl, hz, hid hY, Below.refl _ _⟩
  case round =>
    obtain ⟨y, rfl, ⟨hy1, hy2⟩, hf, hb⟩ := hrel
    have CB := hid fun (w1 : World) => out_behind y w1 (by omega) hy2
    have CS1 := hid (CS.out _ hb y hy1 hy2)
    by_cases hin : y.toNat ∈ ids
    · have hd : decide (y.toNat ∈ ids) = true := decide_eq_true hin
      rw [hd] at CS1
      cases gk with
      | zero => exact absurd hin (by have := hf.out; unfold firstI at this; rw [this]; exact hfree)
      | succ g =>
        have hf2 : firstI g (nxt y) ids = Y := by have := hf.out; unfold firstI at this; rwa [if_pos hin] at this
        have hr := nxt_range y
        unfold nxt at hf2 hr
        go_wp2_with (first
          | (go_at_call 141; refine CS1.out.mono ?_; rintro e w1 ⟨rfl, hb1⟩)
          | (go_at_call 142; refine (CB.out _).mono ?_; rintro e w2 ⟨rfl, rfl⟩))
        go_roundg g
        case rel => exact ⟨_, rfl, hr, hid hf2, hb.trans (hb1.mono hb.size)⟩
        case measure => omega
    · have hd : decide (y.toNat ∈ ids) = false := decide_eq_false hin
      rw [hd] at CS1
      go_wp2_with (first
          | (go_at_call 141; refine CS1.out.mono ?_; rintro e w1 ⟨rfl, hb1⟩)
          | (go_at_call 142; refine (CB.out _).mono ?_; rintro e w2 ⟨rfl, rfl⟩))
      have hyy : y = Y := by
        have := hf.out
        cases gk with
        | zero => exact this
        | succ g => unfold firstI at this; rwa [if_neg hin] at this
      go_ret
      exact ⟨by rw [← hyy]; rfl, hb.trans (hb1.mono hb.size)⟩
end Go.Proofs.YtoinabapaeebfaaGreatDoor
namespace Go.Proofs.YtoinabapaeebfaaGreatDoor
open Go.RowKit Go.Shelf

/-- What an iterator value promises a caller whose invariant implies Inv: called with yield, it hands on the elements one by one; between them it does to memory what Ab says; Nx: what is known of an element when it is handed on; S: all have come; Sp: a round said 'no more'. -/
def SeqJ {α : Type} (P : Program) (g : Nat) (lb : Array Value) (encs : α → Array Value) (Inv : List α → World → Prop) (Ab : World → World → Prop) (Nx : List α → α → World → Prop) (S Sp : List α → Prop) (w : World) : Prop :=
  ∀ (l : Nat) (J Jx : List α → World → Prop) (W : World), Below w.heap.size w W → w.heap.size ≤ l →
    (∀ s A A', J s A → Ab A A' → J s A') → (∀ s A A', Jx s A → Ab A A' → Jx s A') → (∀ s A, J s A → Inv s A) →
    (∀ pre x W1, J pre W1 → Nx pre x W1 → YieldAt Fence.wide 0 P l (encs x) W1 fun e W' =>
      (e = .returned (.bool true) ∧ J (pre ++ [x]) W') ∨ (e = .returned (.bool false) ∧ Jx (pre ++ [x]) W')) →
    J [] W →
    CallsIn Fence.wide 0 P g (#[.func (.yield l) #[] #[]] ++ lb) W fun e W' => (∃ v, e = .returned v) ∧ ((∃ xs, S xs ∧ J xs W') ∨ (∃ pre, Sp pre ∧ Jx pre W'))

/-- How the body of a round may be left. -/
def roundJ {α : Type} (B : Nat) (I : List α → World → Prop) (Ix : Code → List α → World → Prop) (xs : List α) (W : World) : Exit → Act → World → Prop
  | .normal, _, W' => Keep 0 [B, B + 1] W W' ∧ I xs W'
  | .ret, _, W' => Keep 0 [B, B + 1] W W' ∧ Ix .ret xs W'
  | .exit id, _, W' => Keep 0 [B, B + 1] W W' ∧ Ix (.exit id) xs W'
  | .goto t, _, W' => Keep 0 [B, B + 1] W W' ∧ Ix (.goto t) xs W'
  | .panic _, _, _ => False
  | .outgrown, _, _ => False

theorem wp_rangeJ {P : Program} {α : Type} {g : Operand} {ps : Array Tmp} {assign body : Code} {Q : Exit → Act → World → Prop} {a : Act} {w : World}
    {gf : Nat} {lb : Array Value} (hg : a.eval g = .func (.func gf) #[] lb) (eg : ∀ args w, (callFunc gf args).run P w = .ok (.enter gf args) w)
    {encs : α → Array Value} {Inv : List α → World → Prop} {Ab : World → World → Prop} {Nx : List α → α → World → Prop} {S Sp : List α → Prop} (hseq : SeqJ P gf lb encs Inv Ab Nx S Sp w)
    (hAb : ∀ A B, Ab A B → w.heap.size + 1 < A.heap.size → A.heap.size ≤ B.heap.size ∧ B.heap[w.heap.size]? = A.heap[w.heap.size]? ∧ B.heap[w.heap.size + 1]? = A.heap[w.heap.size + 1]?)
    (hps : ∀ x, (encs x).size = ps.size)
    (I : List α → World → Prop) (Ix : Code → List α → World → Prop)
    (hInv : ∀ s A, I s A → Inv s A) (hI : ∀ s A A', I s A → Ab A A' → I s A') (hIx : ∀ c s A A', Ix c s A → Ab A A' → Ix c s A')
    (hIo : ∀ s A o, I s A → w.heap.size + 1 < A.heap.size → I s (A.putObj (w.heap.size + 1) o)) (hIxo : ∀ c s A o, Ix c s A → w.heap.size + 1 < A.heap.size → Ix c s (A.putObj (w.heap.size + 1) o))
    (h0 : ∀ r, I [] ((w.alloc (.deferred (some []))).alloc (.loop r)))
    (Ax : List α → α → Act → World → Prop) (hAx : ∀ pre x a' A o, Ax pre x a' A → w.heap.size + 1 < A.heap.size → Ax pre x a' (A.putObj (w.heap.size + 1) o))
    (hassign : ∀ (pre : List α) (x : α) (W : World) (K : Act → World → Prop), w.heap.size + 1 < W.heap.size → I pre W → Nx pre x W → (∀ a' W', Keep 0 [w.heap.size, w.heap.size + 1] W W' → I pre W' → Ax pre x a' W' → K a' W') →
      assign.wpIn (Fence.wide.inRound (w.heap.size + 1)) 0 P (Exit.then K (fun _ _ _ => False)) { tmps := (ps.zip (encs x)).foldl (fun t (p, v) => t.setIfInBounds p v) a.tmps, defers := [] } W)
    (hbody : ∀ (pre : List α) (x : α) (a' : Act) (W : World), w.heap.size + 1 < W.heap.size → I pre W → Ax pre x a' W → body.wpIn (Fence.wide.inRound (w.heap.size + 1)) 0 P (roundJ w.heap.size I Ix (pre ++ [x]) W) a' W)
    (hdone : ∀ (xs : List α) (W : World), S xs → I xs W → w.heap.size < W.heap.size → W.heap[w.heap.size]? = some (.deferred (some [])) → Q .normal { a with defers := { target := .collected w.heap.size, args := #[] } :: a.defers } W)
    (hstop : ∀ (c : Code) (pre : List α) (W : World), Sp pre → Ix c pre W → w.heap.size < W.heap.size → W.heap[w.heap.size]? = some (.deferred (some [])) → c.wp P Q { a with defers := { target := .collected w.heap.size, args := #[] } :: a.defers } W) :
    (Code.rangeFunc g ps assign body).wp P Q a w := by
  refine (wpIn_wide (n := 0)).1 (wpIn_rangeFunc ?_)
  intro fn hfn
  obtain ⟨rec, hrec⟩ : ∃ rec : LoopState → Option Code → Loop, rec = fun st pe => { state := st, pending := pe, fn, tmps := a.tmps, params := ps, assign, body, defers := w.heap.size } := ⟨_, rfl⟩
  obtain ⟨W1, hW1⟩ : ∃ W1, (w.alloc (.deferred (some []))).alloc (.loop (rec .ready none)) = W1 := ⟨_, rfl⟩
  have hL1 : W1.heap[w.heap.size + 1]? = some (.loop (rec .ready none)) := by
    rw [← hW1]; have := World.alloc_heap_new (w.alloc (.deferred (some []))) (.loop (rec .ready none)); rwa [World.size_alloc] at this
  have hK1 : W1.heap[w.heap.size]? = some (.deferred (some [])) := by
    rw [← hW1]; exact (Below.heap_alloc _ _ _ (by simp)).trans (World.alloc_heap_new w _)
  have hI1 : I [] W1 := by rw [← hW1]; exact h0 _
  have hb1 : Below w.heap.size w W1 := by
    rw [← hW1]; exact ((Below.refl _ w).alloc (Nat.le_refl _) _).alloc (by simp) _
  refine ⟨w.heap.size + 1, [{ target := .collected w.heap.size, args := #[] }], W1, { target := .fn (.func gf) lb, args := #[.func (.yield (w.heap.size + 1)) #[] #[]] }, W1, gf,
    #[.func (.yield (w.heap.size + 1)) #[] #[]] ++ lb, W1, ?_, ?_, fun _ _ => trivial, ?_, fun h => by simp [Fence.wide] at h, ?_⟩
  · rw [← hW1, hrec]; exact run_enterLoop_outer _ _ _ _ _
  · simp only [resolve, hg]
    simp [go_sem]
  · simp [invoke, go_sem, eg]
  · refine (hseq (w.heap.size + 1)
      (fun pre W => I pre W ∧ W.heap[w.heap.size + 1]? = some (.loop (rec .ready none)) ∧ W.heap[w.heap.size]? = some (.deferred (some [])))
      (fun pre W => ∃ c, Ix c pre W ∧ W.heap[w.heap.size + 1]? = some (.loop (rec .done (some c))) ∧ W.heap[w.heap.size]? = some (.deferred (some [])))
      W1 hb1 (Nat.le_succ _)
      (fun s A B hs hab => by
        have hlt := (Array.getElem?_eq_some_iff.1 hs.2.1).1
        obtain ⟨_, h1, h2⟩ := hAb A B hab hlt
        exact ⟨hI s A B hs.1 hab, h2.trans hs.2.1, h1.trans hs.2.2⟩)
      (fun s A B hs hab => by
        obtain ⟨c, hc, hl, hk⟩ := hs
        have hlt := (Array.getElem?_eq_some_iff.1 hl).1
        obtain ⟨_, h1, h2⟩ := hAb A B hab hlt
        exact ⟨c, hIx c s A B hc hab, h2.trans hl, h1.trans hk⟩)
      (fun s A hs => hInv s A hs.1)
      ?_ ⟨hI1, hL1, hK1⟩).mono ?_
    · rintro pre x W ⟨hi, hl, hk⟩ hnx
      have hlt : w.heap.size + 1 < W.heap.size := (Array.getElem?_eq_some_iff.1 hl).1
      have hy := run_yield (P := P) (args := encs x) hl (by rw [hrec]; exact hps x)
      rw [hrec] at hy
      refine ⟨fn, _, assign, body, hy, roundIn_of_wpIn hfn (hassign pre x W _ hlt hi hnx ?_)⟩
      clear hy
      intro a' Wa hka hia hax
      have hla := (hka.keep _ (by simp : w.heap.size + 1 ∈ _)).trans hl
      have hda := (hka.keep _ (by simp : w.heap.size ∈ _)).trans hk
      have hlta : w.heap.size + 1 < Wa.heap.size := (Array.getElem?_eq_some_iff.1 hla).1
      refine ⟨_, run_beginRound hla (by rw [hrec]), ?_⟩
      have hl2 : (Wa.putObj (w.heap.size + 1) (.loop { rec .ready none with state := .busy })).heap[w.heap.size + 1]? = some (.loop { rec .ready none with state := .busy }) := World.putObj_heap_same hlta
      have hk2 : (Wa.putObj (w.heap.size + 1) (.loop { rec .ready none with state := .busy })).heap[w.heap.size]? = some (.deferred (some [])) := (World.putObj_heap_other (by omega)).trans hda
      refine wpIn_mono (hbody pre x a' _ (by simpa using hlta) (hIo _ _ _ hia hlta) (hAx _ _ _ _ _ hax hlta)) ?_
      have fin : ∀ (jump : Option Code) (W3 : World), Keep 0 [w.heap.size, w.heap.size + 1] (Wa.putObj (w.heap.size + 1) (.loop { rec .ready none with state := .busy })) W3 →
          (Instr.endRound (w.heap.size + 1) jump).run P W3 = .ok (.bool jump.isNone) (W3.putObj (w.heap.size + 1) (.loop (rec (if jump.isNone then .ready else .done) jump))) ∧
          w.heap.size + 1 < W3.heap.size ∧
          (W3.putObj (w.heap.size + 1) (.loop (rec (if jump.isNone then .ready else .done) jump))).heap[w.heap.size + 1]? = some (.loop (rec (if jump.isNone then .ready else .done) jump)) ∧
          (W3.putObj (w.heap.size + 1) (.loop (rec (if jump.isNone then .ready else .done) jump))).heap[w.heap.size]? = some (.deferred (some [])) := fun jump W3 hk3 => by
        have hl3 := (hk3.keep _ (by simp : w.heap.size + 1 ∈ _)).trans hl2
        have := run_endRound (P := P) jump hl3
        rw [hrec] at this ⊢
        have h4 := (Array.getElem?_eq_some_iff.1 hl3).1
        exact ⟨this, h4, World.putObj_heap_same h4, (World.putObj_heap_other (by omega)).trans ((hk3.keep _ (by simp : w.heap.size ∈ _)).trans hk2)⟩
      rintro e a3 W3 hp
      cases e with
      | normal =>
        obtain ⟨hk3, hi3⟩ := hp
        obtain ⟨hr, hl3, hl4, hk4⟩ := fin none W3 hk3
        exact ⟨_, _, hr, .inl ⟨rfl, hIo _ _ _ hi3 hl3, hl4, hk4⟩⟩
      | ret =>
        obtain ⟨hk3, hi3⟩ := hp
        obtain ⟨hr, hl3, hl4, hk4⟩ := fin (some .ret) W3 hk3
        exact ⟨_, _, hr, .inr ⟨rfl, .ret, hIxo _ _ _ _ hi3 hl3, hl4, hk4⟩⟩
      | exit id =>
        obtain ⟨hk3, hi3⟩ := hp
        obtain ⟨hr, hl3, hl4, hk4⟩ := fin (some (.exit id)) W3 hk3
        exact ⟨_, _, hr, .inr ⟨rfl, .exit id, hIxo _ _ _ _ hi3 hl3, hl4, hk4⟩⟩
      | goto t =>
        obtain ⟨hk3, hi3⟩ := hp
        obtain ⟨hr, hl3, hl4, hk4⟩ := fin (some (.goto t)) W3 hk3
        exact ⟨_, _, hr, .inr ⟨rfl, .goto t, hIxo _ _ _ _ hi3 hl3, hl4, hk4⟩⟩
      | panic ch => exact hp.elim
      | outgrown => exact hp.elim
    · rintro e W2 ⟨⟨v, rfl⟩, (⟨xs, hS, hi, hl, hk⟩ | ⟨pre, hSp, c, hi, hl, hk⟩)⟩
      · have h4 := (Array.getElem?_eq_some_iff.1 hl).1
        exact ⟨none, _, by have := run_endLoop (P := P) hl (by rw [hrec]; simp); rw [hrec] at this; exact this, hdone xs _ hS (hIo _ _ _ hi h4) (by simp; omega) ((World.putObj_heap_other (by omega)).trans hk)⟩
      · have h4 := (Array.getElem?_eq_some_iff.1 hl).1
        exact ⟨some c, _, by have := run_endLoop (P := P) hl (by rw [hrec]; simp); rw [hrec] at this; exact this, wpIn_wide.2 (hstop c pre _ hSp (hIxo _ _ _ _ hi h4) (by simp; omega) ((World.putObj_heap_other (by omega)).trans hk))⟩

end Go.Proofs.YtoinabapaeebfaaGreatDoor
namespace Go.Proofs.YtoinabapaeebfaaGreatDoor
open Go.RowKit Go.Shelf
attribute [local go_sem] Oper.semAt_some

/-- The first k places, those that wait. -/
def waitQ (st : Nat → Int) (k : Nat) : List Nat := (List.range k).filter fun i => decide (st i = 1)
theorem waitQ_succ (st : Nat → Int) (k : Nat) : waitQ st (k + 1) = waitQ st k ++ (if st k = 1 then [k] else []) := by
  simp only [waitQ, List.range_succ, List.filter_append]
  congr 1
  by_cases h : st k = 1 <;> simp [h]
theorem waitQ_rest (st : Nat → Int) (k n : Nat) (h : k ≤ n) : ∃ rest, waitQ st n = waitQ st k ++ rest := by
  induction n with
  | zero => obtain rfl : k = 0 := by omega
            exact ⟨[], by simp⟩
  | succ n ih =>
    rcases Nat.lt_or_ge k (n + 1) with h1 | h1
    · obtain ⟨rest, hr⟩ := ih (by omega)
      exact ⟨rest ++ (if st n = 1 then [n] else []), by rw [waitQ_succ, hr, List.append_assoc]⟩
    · obtain rfl : k = n + 1 := by omega
      exact ⟨[], by simp⟩
theorem waitQ_lt (st : Nat → Int) (k : Nat) : ∀ j ∈ waitQ st k, j < k := by
  intro j hj
  simp [waitQ] at hj
  exact hj.1

/-- What the iterator relies on. -/
structure WInv (p c : Nat) (vl : Value) (rb : List Nat) (st : Nat → Int) (pre : List Nat) (W : World) : Prop where
  box : Boxed W c 26 (.pointer (some ⟨p, 0, none⟩))
  l : W.cell? ⟨p, 6, none⟩ = some vl
  rows : W.ownsRow 0 126 1 vl rb.length (ptrs rb)
  stage : ∀ i b, rb[i]? = some b → (∀ j ∈ pre, j < i) → W.cell? ⟨b, 8, none⟩ = some (.int .i64 (st i))
def encW (rb : List Nat) (i : Nat) : Array Value := #[.pointer (some ⟨rb[i]?.getD 0, 0, none⟩)]

theorem own_cell {w : World} {base : Nat} {e : TypeId} {v : Value} {n : Nat} {xs : List Value} (h : w.ownsRow base e 1 v n xs) : ∃ a cap, v = .slice a n cap ∧ ∀ i x, xs[i]? = some x → ∃ g, a = some ⟨g, 0, none⟩ ∧ w.cell? ⟨g, i, none⟩ = some x := by
  obtain ⟨hl, ⟨rfl, rfl⟩ | ⟨g, cap, cur, rfl, _, hg, hn, _, hc, ht⟩⟩ := h
  · refine ⟨none, 0, rfl, fun i x hx => ?_⟩
    have : xs = [] := List.eq_nil_of_length_eq_zero (by simpa using hl)
    subst this; simp at hx
  · refine ⟨_, _, rfl, fun i x hx => ⟨g, rfl, ?_⟩⟩
    have hlt := (List.getElem?_eq_some_iff.1 hx).1
    rw [← ht] at hx
    have h1 : i < n * 1 := by omega
    rw [List.getElem?_take_of_lt h1] at hx
    simp [World.cell?, hg]
    simpa using hx

set_option maxRecDepth 100000 in
set_option maxHeartbeats 1000000 in
theorem out_waits1 (p c : Nat) (vl : Value) (rb : List Nat) (st : Nat → Int) (w : World) (hn : rb.length ≤ 1000000) :
    SeqJ Tryz.prog 195 #[.pointer (some ⟨c, 0, none⟩)] (encW rb) (WInv p c vl rb st) (Wrote []) (fun pre x _ => ∃ rest, waitQ st rb.length = pre ++ x :: rest) (fun xs => xs = waitQ st rb.length) (fun pre => ∃ rest, waitQ st rb.length = pre ++ rest) w := by
  intro lb J Jx W hW hlb hJ hJx hI hY h0
  have hi0 := hI _ _ h0
  have hb := hi0.box.cell
  have hl := hi0.l
  obtain ⟨al, cl, rfl, hal⟩ := own_cell hi0.rows
  refine callsIn_of_wp Tryz.func195 rfl trivial ?_ rfl
  simp only [Tryz.ntmps195, List.size_toArray, List.length_cons, List.length_nil, Nat.reduceAdd, Nat.reduceSub, Array.replicate_succ, Array.replicate_zero, List.push_toArray, List.append_toArray, List.nil_append, List.cons_append]
  gi_wp2
  gi_loopw [4, 10] (fun _ i wr => ∃ (k : Nat), i = .int .i64 k ∧ k ≤ rb.length ∧ J (waitQ st k) wr)
    (fun _ i _ => rb.length - (intOf i).toNat)
  case atStart => exact ⟨0, rfl, Nat.zero_le _, h0⟩
  case round =>
    obtain ⟨k, rfl, hk, hj⟩ := hrel
    rcases Nat.lt_or_ge k rb.length with hlt | hge
    · have dk : decide ((k : Int) < (rb.length : Int)) = true := decide_eq_true (by omega)
      have hi := hI _ _ hj
      obtain ⟨a', c', he, hal'⟩ := own_cell hi.rows
      cases he
      obtain ⟨b, hbk⟩ : ∃ b, rb[k]? = some b := ⟨_, List.getElem?_eq_getElem hlt⟩
      obtain ⟨g, rfl, hg⟩ := hal' k (.pointer (some ⟨b, 0, none⟩)) (by simp [ptrs, hbk])
      have hst := hi.stage k b hbk (waitQ_lt st k)
      have hq := hid (waitQ_succ st k)
      obtain ⟨v, hv⟩ : ∃ v, st k = v := ⟨_, rfl⟩
      rw [hv] at hst hq
      by_cases h1 : v = 1
      · subst h1
        have hq' : waitQ st (k + 1) = waitQ st k ++ [k] := by rw [hq.out]; rfl
        obtain ⟨rest, hrest⟩ := waitQ_rest st (k + 1) rb.length (by omega)
        have hrest' : waitQ st rb.length = waitQ st k ++ k :: rest := by rw [hrest, hq']; simp
        obtain ⟨fn, tmps, assign, body, hy2, hR⟩ := hY (waitQ st k) k wr hj ⟨rest, hrest'⟩
        replace hy2 : (Instr.yield lb #[.pointer (some ⟨rb[k]?.getD 0, 0, none⟩)]).run Tryz.prog wr = _ := hy2
        rw [hbk] at hy2
        simp only [Option.getD_some] at hy2
        have HR := hid hR
        clear hR
        gi_wp2_with fail
        refine ⟨rfl, HR.out.mono ?_⟩
        rintro e W3 (⟨rfl, hJ3⟩ | ⟨rfl, hJx3⟩)
        · gi_wp2
          go_roundw
          case rel => exact ⟨k + 1, by go_num, by omega, by rw [hq']; exact hJ3⟩
          case measure => simp [intOf]; omega
        · gi_wp2
          refine bodyPost_ret (results_none rfl _ _ _) rfl ?_
          exact ⟨⟨_, rfl⟩, .inr ⟨_, ⟨rest, by rw [hrest', List.append_assoc]; rfl⟩, hJx3⟩⟩
      · have e1 : (v == 1) = false := by simpa using h1
        have hq' : waitQ st (k + 1) = waitQ st k := by rw [hq.out, if_neg h1]; simp
        gi_wp2
        refine ⟨fun f hf => (by cases hf), ?_⟩
        gi_wp2
        go_roundw
        case rel => exact ⟨k + 1, by go_num, by omega, by rw [hq']; exact hj⟩
        case measure => simp [intOf]; omega
    · obtain rfl : k = rb.length := by omega
      gi_wp2
      refine bodyPost_end (results_none rfl _ _ _) rfl ?_
      exact ⟨⟨_, rfl⟩, .inl ⟨_, rfl, hj⟩⟩
end Go.Proofs.YtoinabapaeebfaaGreatDoor
namespace Go.Proofs.YtoinabapaeebfaaGreatDoor
open Go.RowKit Go.Shelf

/-- A row with an ID, sent. -/
def RowV.sent (r : RowV) (y : Int) : RowV := { r with id := y, stage := 2 }
structure SS where
  s : OS
  ps : List PackV
  cs : List ChangeV
/-- The row at a place is sent, if there is room. -/
def SS.send (x : SS) (i : Nat) : SS :=
  if x.s.window ≤ (idsOf x.s.l).length then x else
  match x.s.l[i]? with
  | none => x
  | some r =>
    let y := firstI (idsOf x.s.l).length x.s.id (idsOf x.s.l)
    ⟨{ x.s with l := x.s.l.set i (r.sent y), id := y % 65535 + 1 }, x.ps ++ [(r.sent y).pub false], x.cs ++ [⟨false, r.sent y⟩]⟩
def SS.sends (x : SS) (q : List Nat) : SS := q.foldl SS.send x
theorem SS.sends_snoc (x : SS) (q : List Nat) (i : Nat) : x.sends (q ++ [i]) = (x.sends q).send i := by simp [SS.sends]
theorem SS.send_full (x : SS) (i : Nat) (h : x.s.window ≤ (idsOf x.s.l).length) : x.send i = x := by unfold SS.send; rw [if_pos h]
theorem SS.sends_full (x : SS) (q : List Nat) (h : x.s.window ≤ (idsOf x.s.l).length) : x.sends q = x := by
  induction q with
  | nil => rfl
  | cons i q ih =>
    show (x.send i).sends q = x
    rw [SS.send_full x i h]; exact ih
theorem SS.send_other (x : SS) (i j : Nat) (h : j ≠ i) : (x.send i).s.l[j]? = x.s.l[j]? := by
  unfold SS.send
  split
  · rfl
  · split
    · rfl
    · simp [List.getElem?_set_ne (Ne.symm h)]
theorem SS.sends_other (x : SS) (q : List Nat) (j : Nat) (h : ∀ i ∈ q, j ≠ i) : (x.sends q).s.l[j]? = x.s.l[j]? := by
  induction q generalizing x with
  | nil => rfl
  | cons i q ih =>
    show ((x.send i).sends q).s.l[j]? = _
    rw [ih (x.send i) (fun k hk => h k (by simp [hk])), SS.send_other x i j (h i (by simp))]
structure SS.Alike (x y : SS) : Prop where
  len : y.s.l.length = x.s.l.length
  client : y.s.client = x.s.client
  window : y.s.window = x.s.window
  room : y.s.room = x.s.room
  seq : y.s.seq = x.s.seq
  packs : y.ps.length ≤ x.ps.length + 1
  chgs : y.cs.length ≤ x.cs.length + 1
theorem SS.send_alike (x : SS) (i : Nat) : x.Alike (x.send i) := by
  unfold SS.send
  split
  · exact ⟨rfl, rfl, rfl, rfl, rfl, by omega, by omega⟩
  · split
    · exact ⟨rfl, rfl, rfl, rfl, rfl, by omega, by omega⟩
    · exact ⟨by simp, rfl, rfl, rfl, rfl, by simp, by simp⟩

theorem ids_set (l : List RowV) (i : Nat) (r r' : RowV) (h : l[i]? = some r) (h1 : r.stage = 1) (h2 : r'.stage ≠ 1) : (r'.id.toNat :: idsOf l).Perm (idsOf (l.set i r')) := by
  induction l generalizing i with
  | nil => simp at h
  | cons x l ih =>
    cases i with
    | zero =>
      simp at h
      subst h
      simp [idsOf, h1, h2]
    | succ i =>
      simp at h
      have := ih i h
      by_cases hx : x.stage = 1
      · simpa [idsOf, hx] using this
      · have e1 : idsOf (x :: l) = x.id.toNat :: idsOf l := by simp [idsOf, hx]
        have e2 : idsOf ((x :: l).set (i + 1) r') = x.id.toNat :: idsOf (l.set i r') := by simp [idsOf, hx]
        rw [e1, e2]
        exact (List.Perm.swap _ _ _).trans (this.cons _)

/-- The row at place i has been sent, its ID has come. -/
theorem OB.sent {w w' : World} {B : Nat} {L : Lay} {s : OS} {ps : List PackV} {cs : List ChangeV} (h : OB w B L s ps cs) (i b : Nat) (r : RowV) (hb : L.rb[i]? = some b) (hr : s.l[i]? = some r) (hs : r.stage = 1) (y : Int) (hy : 1 ≤ y ∧ y ≤ 65535)
    (hnot : y.toNat ∉ idsOf s.l) (hund : ((idsOf s.l).length : Int) < s.window) (hw : Wrote [b, L.sb] w w') (hbl : Blk w' b (r.sent y).vals 33) (hin : Inb w' L.ib L.sb 100 (tog L.W y.toNat)) :
    OB w' B { L with W := tog L.W y.toNat } { s with l := s.l.set i (r.sent y) } ps cs := by
  have hrow := h.cells i b r hb hr
  have hperm := ids_set s.l i r (r.sent y) hr hs (by simp [RowV.sent])
  have hn : ∀ {T : TypeId} {x : Nat} {c : Array Value}, Blk w x c T → T ≠ 33 → T ≠ 181 → x ∉ [b, L.sb] := fun hx h1 h2 hm => by
    simp at hm
    rcases hm with hm | hm
    · exact (hx.ne hrow h1) hm
    · exact (hx.ne h.inb.set h2) hm
  have hrw : ∀ {base : Nat} {e : TypeId} {size : Nat} {v : Value} {n : Nat} {xs : List Value}, w.ownsRow base e size v n xs → e ≠ 33 → e ≠ 181 → w'.ownsRow base e size v n xs := fun hx h1 h2 => not_own hx hw fun x hm hbk => by
    simp at hm
    rcases hm with rfl | rfl
    · exact block_not_row hrow (Ne.symm h1) hx (mem_blk.1 hbk).symm
    · exact block_not_row h.inb.set (Ne.symm h2) hx (mem_blk.1 hbk).symm
  have hbf : b ∈ L.foot := by simp [Lay.foot, List.mem_of_getElem? hb]
  refine ⟨Nat.le_trans h.base hw.size, h.box.wrote hw (hn h.box (by decide) (by decide)), hin, (h.set.come (by omega) hnot).perm hperm, ?_, ?_, ?_, h.nodup, hrw h.packs (by decide) (by decide), hrw h.chgs (by decide) (by decide), h.tz.wrote hw ?_, h.gg, ?_⟩
  · have := hrw h.rows (by decide) (by decide)
    simpa using this
  · simpa using h.len
  · intro j b' r' h1 h2
    dsimp only at h1 h2
    by_cases e : j = i
    · subst e
      rw [hb] at h1
      cases h1
      have hlt := (List.getElem?_eq_some_iff.1 hr).1
      rw [List.getElem?_set_self hlt] at h2
      cases h2
      exact hbl
    · rw [List.getElem?_set_ne (Ne.symm e)] at h2
      have hc := h.cells j b' r' h1 h2
      refine hc.wrote hw fun hm => ?_
      simp at hm
      rcases hm with rfl | hm
      · have hlt1 := (List.getElem?_eq_some_iff.1 h1).1
        exact e ((List.getElem?_inj hlt1 h.nodup).1 (h1.trans hb.symm))
      · exact (hc.ne h.inb.set (by decide)) hm
  · intro hm
    simp at hm
    rcases hm with hm | hm
    · exact h.gg (hm ▸ hbf)
    · exact h.gg (by simp [Lay.foot, hm])
  · have hok := h.ok
    refine ⟨hok.win, by simpa using hok.room, hok.seq, hok.id, hok.cl, ?_, hperm.nodup_iff.1 (List.nodup_cons.2 ⟨hnot, hok.nodup⟩), ?_⟩
    · intro x hx hst
      rcases List.mem_or_eq_of_mem_set hx with hx | hx
      · exact hok.ids x hx hst
      · subst hx; exact hy
    · have := hperm.length_eq
      simp only [List.length_cons] at this
      show ((idsOf (s.l.set i (r.sent y))).length : Int) ≤ s.window
      omega
end Go.Proofs.YtoinabapaeebfaaGreatDoor
