/- Contracts of package outbox (part 6): publish, behind, first, waits. · Contracts of package outbox (part 7): first. -/
import Derived.Great.BuildSlice
import Derived.Test.YtoinabapaeebfaaGreatDoorPk16
import Derived.Test.YtoinabapaeebfaaGreatDoorPk12
import Derived.Deep.LoopGhost
set_option linter.unusedSimpArgs false
set_option linter.unusedVariables false
namespace Go.Proofs.YtoinabapaeebfaaGreatDoor
open Go.RowKit Go.Shelf

section
variable {P : Program} {w : World}
theorem setRow_wrote (b : Nat) (cs : Array Value) : Wrote [b] w (w.setRow b cs) := ⟨rfl, rfl, rfl, by simp [World.setRow], fun k _ hk => setRow_other w b k cs (fun e => hk (by simp [e]))⟩
theorem run_store_whole (t T : TypeId) (n : Nat) (hs : ∀ w, (sizeOf t).run P w = .ok n w) {b : Nat} {cur cs : Array Value} (hb : Blk w b cur T) (h1 : cs.size = n) (h2 : cur.size = n) (ho1 : ∀ v ∈ cs.toList, v.oneCell' = true) :
    (Instr.storeAt t (.pointer (some ⟨b, 0, none⟩)) (.agg cs)).run P w = .ok () (w.setRow b cs) := by
  have hr := run_storeCells_at P b 0 T cs.toList 0 cur w hb (by simp; omega) ho1
  have e1 : (cur.toList.take (0 + 0) ++ cs.toList ++ cur.toList.drop (0 + 0 + cs.toList.length)).toArray = cs := by
    rw [List.drop_eq_nil_of_le (by simp; omega)]
    simp
  rw [e1] at hr
  have hc : (Value.agg cs).cells = cs := rfl
  simp [Instr.storeAt, Instr.sureAddr, storeVar, hs, hc, h1, hr]
theorem wp_store_whole {o : Oper} {a : Act} {K : Act → World → Prop} {Q : Exit → Act → World → Prop} (t T : TypeId) (x y : Operand) (ho : o.op = .store t x y) (n : Nat) (hs : ∀ w, (sizeOf t).run P w = .ok n w) (b : Nat) (cur cs : Array Value)
    (hx : a.eval x = .pointer (some ⟨b, 0, none⟩)) (hy : a.eval y = .agg cs) (hb : Blk w b cur T) (h1 : cs.size = n) (h2 : cur.size = n) (ho1 : ∀ v ∈ cs.toList, v.oneCell' = true)
    (h : ∀ w', Blk w' b cs T → Wrote [b] w w' → K (a.put o.dst undef) w') : o.wp P a w K Q := by
  have hr := run_store_whole (P := P) t T n hs hb h1 h2 ho1
  unfold Oper.wp execOp
  simp only [ho, hx, hy, Sem.run_bind, hr, Result.andThen_ok, Sem.run_pure]
  simp only [Oper.upon]
  exact h _ (setRow_heap w b cur cs T (0, 0) hb) (setRow_wrote b cs)
theorem results_cell1 {fn : Func} {a : Tmp} {t : TypeId} (h : fn.results = #[.cell a t]) {tmps : Array Value} {p : Addr} (hp : tmps.getD a undef = .pointer (some p)) {v : Value} (hl : (loadVar t p).run P w = .ok v w) : (results fn tmps).run P w = .ok v w := by
  rw [Array.getD_eq_getD_getElem?] at hp
  simp [results, h, hp, asAddr, hl]
theorem results_cell2 {fn : Func} {a u : Tmp} {t : TypeId} (h : fn.results = #[.cell a t, .tmp u]) {tmps : Array Value} {p : Addr} (hp : tmps.getD a undef = .pointer (some p)) {v x : Value} (hl : (loadVar t p).run P w = .ok v w) (hu : tmps.getD u undef = x) : (results fn tmps).run P w = .ok (.tuple #[v, x]) w := by
  rw [Array.getD_eq_getD_getElem?] at hp hu
  simp [results, h, hp, hu, asAddr, hl]
end

def RowV.pub (r : RowV) (dup : Bool) : PackV := ⟨3, dup, r.retain, r.qos, r.topic, r.body, r.id⟩

set_option maxRecDepth 100000 in
set_option maxHeartbeats 1000000 in
theorem out_publish (b : Nat) (r : RowV) (dup : Bool) (w : World) (h : Blk w b r.vals 33) :
    Calls Tryz.prog 102 #[.pointer (some ⟨b, 0, none⟩), .bool dup] w fun e w' => e = .returned (.agg (r.pub dup).cells.toArray) ∧ Below w.heap.size w w' := by
  have hb : b < w.heap.size := h.lt
  go_enter Tryz.func102, Tryz.ntmps102
  go_wp2
  refine regionQ [(1000, fun w' => w'.cell? ⟨b, 4, none⟩ = some (.string ⟨r.topic.toArray⟩)), (1000, fun w' => w'.cell? ⟨b, 5, none⟩ = some (.string ⟨r.body.toArray⟩)), (1000, fun w' => w'.cell? ⟨b, 6, none⟩ = some (.int .i64 r.qos)), (1000, fun w' => w'.cell? ⟨b, 7, none⟩ = some (.bool r.retain)), (1000, fun w' => w'.cell? ⟨b, 3, none⟩ = some (.int .i64 r.id))] (by kernel_rfl) ⟨(h.alloc _).cell 4, (h.alloc _).cell 5, (h.alloc _).cell 6, (h.alloc _).cell 7, (h.alloc _).cell 3, trivial⟩ fun KQ hKQ => ?_
  refine takeQ 0 rfl (by kernel_rfl) rfl (by kernel_rfl) fun K hK => ?_
  simp only [List.getElem_toArray, List.getElem_cons_zero, List.getElem_cons_succ]
  go_big_quiet_op
  refine hK _ ?_
  clear hK K
  refine nilQ 1 rfl (by kernel_rfl) (by kernel_rfl) rfl rfl ?_
  simp only [Act.put, List.getElem_toArray, List.getElem_cons_zero, List.getElem_cons_succ, List.setIfInBounds_toArray, List.set_cons_zero, List.set_cons_succ]
  refine takeQ 2 rfl (by kernel_rfl) rfl (by kernel_rfl) fun K hK => ?_
  simp only [List.getElem_toArray, List.getElem_cons_zero, List.getElem_cons_succ]
  go_big_quiet_op
  refine hK _ ?_
  clear hK K
  refine loadQ 3 rfl (by kernel_rfl) (by kernel_rfl) rfl rfl 0 rfl (by kernel_rfl) _ (fun w' hf => by (go_simp <;> with_reducible rfl)) ?_
  simp only [Act.put, List.getElem_toArray, List.getElem_cons_zero, List.getElem_cons_succ, List.setIfInBounds_toArray, List.set_cons_zero, List.set_cons_succ]
  refine takeQ 4 rfl (by kernel_rfl) rfl (by kernel_rfl) fun K hK => ?_
  simp only [List.getElem_toArray, List.getElem_cons_zero, List.getElem_cons_succ]
  go_big_quiet_op
  refine hK _ ?_
  clear hK K
  refine nilQ 5 rfl (by kernel_rfl) (by kernel_rfl) rfl rfl ?_
  simp only [Act.put, List.getElem_toArray, List.getElem_cons_zero, List.getElem_cons_succ, List.setIfInBounds_toArray, List.set_cons_zero, List.set_cons_succ]
  refine takeQ 6 rfl (by kernel_rfl) rfl (by kernel_rfl) fun K hK => ?_
  simp only [List.getElem_toArray, List.getElem_cons_zero, List.getElem_cons_succ]
  go_big_quiet_op
  refine hK _ ?_
  clear hK K
  refine loadQ 7 rfl (by kernel_rfl) (by kernel_rfl) rfl rfl 1 rfl (by kernel_rfl) _ (fun w' hf => by (go_simp <;> with_reducible rfl)) ?_
  simp only [Act.put, List.getElem_toArray, List.getElem_cons_zero, List.getElem_cons_succ, List.setIfInBounds_toArray, List.set_cons_zero, List.set_cons_succ]
  refine takeQ 8 rfl (by kernel_rfl) rfl (by kernel_rfl) fun K hK => ?_
  simp only [List.getElem_toArray, List.getElem_cons_zero, List.getElem_cons_succ]
  go_big_quiet_op
  refine hK _ ?_
  clear hK K
  refine nilQ 9 rfl (by kernel_rfl) (by kernel_rfl) rfl rfl ?_
  simp only [Act.put, List.getElem_toArray, List.getElem_cons_zero, List.getElem_cons_succ, List.setIfInBounds_toArray, List.set_cons_zero, List.set_cons_succ]
  refine takeQ 10 rfl (by kernel_rfl) rfl (by kernel_rfl) fun K hK => ?_
  simp only [List.getElem_toArray, List.getElem_cons_zero, List.getElem_cons_succ]
  go_big_quiet_op
  refine hK _ ?_
  clear hK K
  refine loadQ 11 rfl (by kernel_rfl) (by kernel_rfl) rfl rfl 2 rfl (by kernel_rfl) _ (fun w' hf => by (go_simp <;> with_reducible rfl)) ?_
  simp only [Act.put, List.getElem_toArray, List.getElem_cons_zero, List.getElem_cons_succ, List.setIfInBounds_toArray, List.set_cons_zero, List.set_cons_succ]
  refine takeQ 12 rfl (by kernel_rfl) rfl (by kernel_rfl) fun K hK => ?_
  simp only [List.getElem_toArray, List.getElem_cons_zero, List.getElem_cons_succ]
  go_big_quiet_op
  refine hK _ ?_
  clear hK K
  refine nilQ 13 rfl (by kernel_rfl) (by kernel_rfl) rfl rfl ?_
  simp only [Act.put, List.getElem_toArray, List.getElem_cons_zero, List.getElem_cons_succ, List.setIfInBounds_toArray, List.set_cons_zero, List.set_cons_succ]
  refine takeQ 14 rfl (by kernel_rfl) rfl (by kernel_rfl) fun K hK => ?_
  simp only [List.getElem_toArray, List.getElem_cons_zero, List.getElem_cons_succ]
  go_big_quiet_op
  refine hK _ ?_
  clear hK K
  refine loadQ 15 rfl (by kernel_rfl) (by kernel_rfl) rfl rfl 3 rfl (by kernel_rfl) _ (fun w' hf => by (go_simp <;> with_reducible rfl)) ?_
  simp only [Act.put, List.getElem_toArray, List.getElem_cons_zero, List.getElem_cons_succ, List.setIfInBounds_toArray, List.set_cons_zero, List.set_cons_succ]
  refine takeQ 16 rfl (by kernel_rfl) rfl (by kernel_rfl) fun K hK => ?_
  simp only [List.getElem_toArray, List.getElem_cons_zero, List.getElem_cons_succ]
  go_big_quiet_op
  refine hK _ ?_
  clear hK K
  refine nilQ 17 rfl (by kernel_rfl) (by kernel_rfl) rfl rfl ?_
  simp only [Act.put, List.getElem_toArray, List.getElem_cons_zero, List.getElem_cons_succ, List.setIfInBounds_toArray, List.set_cons_zero, List.set_cons_succ]
  refine takeQ 18 rfl (by kernel_rfl) rfl (by kernel_rfl) fun K hK => ?_
  simp only [List.getElem_toArray, List.getElem_cons_zero, List.getElem_cons_succ]
  go_big_quiet_op
  refine hK _ ?_
  clear hK K
  refine loadQ 19 rfl (by kernel_rfl) (by kernel_rfl) rfl rfl 4 rfl (by kernel_rfl) _ (fun w' hf => by (go_simp <;> with_reducible rfl)) ?_
  simp only [Act.put, List.getElem_toArray, List.getElem_cons_zero, List.getElem_cons_succ, List.setIfInBounds_toArray, List.set_cons_zero, List.set_cons_succ]
  refine takeQ 20 rfl (by kernel_rfl) rfl (by kernel_rfl) fun K hK => ?_
  simp only [List.getElem_toArray, List.getElem_cons_zero, List.getElem_cons_succ]
  go_big_quiet_op
  refine hK _ ?_
  clear hK K
  refine takeQ 21 rfl (by kernel_rfl) rfl (by kernel_rfl) fun K hK => ?_
  simp only [List.getElem_toArray, List.getElem_cons_zero, List.getElem_cons_succ]
  go_big_quiet_op
  refine hK _ ?_
  clear hK K
  refine stepQ 22 rfl (by kernel_rfl) (by decide) (by kernel_rfl) fun K hK => ?_
  simp only [List.getElem_toArray, List.getElem_cons_zero, List.getElem_cons_succ]
  refine wp_store_whole 81 81 _ _ rfl 24 Tryz.sizeOf81 w.heap.size _ _ rfl rfl (Blk.new w _ _).drew rfl rfl (by simp [Value.oneCell']) ?_
  intro w1 hb1 hw1
  have hh := ((h.alloc _).drew).wrote hw1 (by simp; omega)
  refine hK _ _ ⟨⟨fun _ => hh.cell 4, fun _ => hh.cell 5, fun _ => hh.cell 6, fun _ => hh.cell 7, fun _ => hh.cell 3, trivial⟩, ?_⟩
  clear hK K
  refine doneQ (by kernel_rfl) (hKQ.out _ _ ?_)
  clear hKQ KQ
  go_wp2
  refine bodyPost_ret (v := .agg (r.pub dup).cells.toArray) (results_cell1 Tryz.results102 (p := ⟨w.heap.size, 0, none⟩) rfl (run_loadVar_row (P := Tryz.prog) w1 w.heap.size 81 81 _ (0, 0) _ hb1 Tryz.underlying81 rfl (by kernel_rfl))) rfl ?_
  · refine ⟨rfl, ⟨hw1.os, hw1.tape, hw1.output, Nat.le_trans (by simp) hw1.size, fun k hk => (hw1.block k (by simp; omega) (by simp; omega)).trans (Below.heap_alloc _ _ _ hk)⟩⟩

set_option maxRecDepth 100000 in
set_option maxHeartbeats 400000 in
theorem out_behind (n : Int) (w : World) (h0 : 0 ≤ n) (h1 : n ≤ 65535) :
    Calls Tryz.prog 142 #[.int .i64 n, .int .i64 65535] w fun e w' => e = .returned (.int .i64 (n % 65535 + 1)) ∧ w = w' := by
  have q2 : n.tmod 65535 = n % 65535 := by rw [Int.tmod_eq_emod_of_nonneg (by omega)]
  have q3 : 0 ≤ n % 65535 := Int.emod_nonneg _ (by omega)
  have q4 : n % 65535 < 65535 := Int.emod_lt_of_pos _ (by omega)
  go_enter Tryz.func142, Tryz.ntmps142
  go_wp2
  go_ret
  simp

set_option maxRecDepth 100000 in
set_option maxHeartbeats 400000 in
theorem out_waits (p : Nat) (w : World) :
    Calls Tryz.prog 139 #[.pointer (some ⟨p, 0, none⟩)] w fun e w' => e = .returned (.func (.func 195) #[] #[.pointer (some ⟨w.heap.size, 0, none⟩)]) ∧ w.alloc (.cells #[.pointer (some ⟨p, 0, none⟩)] 26) = w' := by
  go_enter Tryz.func139, Tryz.ntmps139
  go_wp2
  go_ret
  exact ⟨rfl, rfl⟩

/-- The closure of send: is an ID free? -/
theorem out_send1 {w : World} {B : Nat} {L : Lay} {s : OS} {ps : List PackV} {cs : List ChangeV} (h : OB w B L s ps cs) (c : Nat) (hc : Boxed w c 26 (.pointer (some ⟨L.p, 0, none⟩))) (z : Int) (h0 : 1 ≤ z) (h1 : z ≤ 65535) :
    Calls Tryz.prog 141 #[.int .i64 z, .pointer (some ⟨c, 0, none⟩)] w fun e w' => e = .returned (.bool (!decide (z.toNat ∈ idsOf s.l))) ∧ Below w.heap.size w w' := by
  have k0 : w.cell? ⟨L.p, 0, none⟩ = some (.pointer (some ⟨L.ib, 0, none⟩)) := h.box.cell 0
  have k1 := hc.cell
  have CH := in_Has L.ib L.sb 100 L.W (idsOf s.l) z w h.inb h.set h0 h1
  go_enter Tryz.func141, Tryz.ntmps141
  go_wp2_with (go_at_call 111; refine CH.mono ?_; rintro e w1 ⟨rfl, hb⟩)
  go_ret
  exact ⟨rfl, hb⟩

theorem wp_slice_one {P : Program} {o : Oper} {a : Act} {w : World} {K : Act → World → Prop} {Q : Exit → Act → World → Prop} {t e : TypeId} {z : Value} {size bytes : Nat} (x : Operand) (ho : o.op = .buildSlice t 1 #[(0, x)]) (E : ElemT P t e z size bytes) (hs : 0 < size) (hs2 : size ≤ 100)
    (v : Value) (hx : a.eval x = v) (hv : v.cells.size = size) (h : K (a.put o.dst (.slice (some ⟨w.heap.size, 0, none⟩) 1 1)) (w.alloc (.cells v.cells e))) : o.wp P a w K Q := by
  obtain ⟨i, hi, hz0, hz1, hz2⟩ := info_parts E.info
  refine wp_buildSlice t e 1 #[(0, x)] ho v.cells i z E.ht hi hz0 (by rw [hz1]; omega) (by rw [hz1]; omega) ?_ h
  have hz3 := E.hzs
  have := Go.Great.fill_whole (s := size) hs [v] ((Array.range (1 * size)).map (z.cells[· % z.cells.size]!)) (by simp [hv]) (by simp)
  rw [hz1]
  simpa [hx] using this
end Go.Proofs.YtoinabapaeebfaaGreatDoor
namespace Go.Proofs.YtoinabapaeebfaaGreatDoor
open Go.RowKit Go.Shelf

set_option maxRecDepth 100000 in
set_option maxHeartbeats 400000 in
theorem out_first {w : World} {B : Nat} {L : Lay} {s : OS} {ps : List PackV} {cs : List ChangeV} (h : OB w B L s ps cs) (c : Nat) (hc : Boxed w c 26 (.pointer (some ⟨L.p, 0, none⟩))) (z : Int) (hz : 1 ≤ z ∧ z ≤ 65535) :
    Calls Tryz.prog 140 #[.int .i64 z, .int .i64 65535, .func (.func 141) #[] #[.pointer (some ⟨c, 0, none⟩)]] w fun e w' => e = .returned (.int .i64 (firstI (idsOf s.l).length z (idsOf s.l))) ∧ Below w.heap.size w w' := by
  obtain ⟨ids, hids⟩ : ∃ ids, idsOf s.l = ids := ⟨_, rfl⟩
  have hlen : ids.length < 65535 := by have h1 := h.ok.under; have h2 := h.ok.win; rw [hids] at h1; omega
  have CS := hid fun (w1 : World) (hb : Below w.heap.size w w1) (y : Int) (h0 : 1 ≤ y) (h1 : y ≤ 65535) => out_send1 (h.below hb) c (boxed_below hc hb) y h0 h1
  rw [hids] at CS ⊢
  obtain ⟨Y, hY⟩ : ∃ Y, firstI ids.length z ids = Y := ⟨_, rfl⟩
  have hfree : Y.toNat ∉ ids := by rw [← hY]; exact firstI_free z ids hz hlen
  rw [hY]
  go_enter Tryz.func140, Tryz.ntmps140
  go_wp2
  go_loopg [0] ids.length (fun g v wr => ∃ (y : Int), v = .int .i64 y ∧ (1 ≤ y ∧ y ≤ 65535) ∧ Hid (firstI g y ids = Y) ∧ Below w.heap.size w wr)
  case atStart => exact ⟨z, rfl, hz, hid hY, Below.refl _ _⟩
  case round =>
    obtain ⟨y, rfl, ⟨hy1, hy2⟩, hf, hb⟩ := hrel
    have CB := hid fun (w1 : World) => out_behind y w1 (by omega) hy2
    have CS1 := hid (CS.out _ hb y hy1 hy2)
    by_cases hin : y.toNat ∈ ids
    · have hd : decide (y.toNat ∈ ids) = true := decide_eq_true hin
      rw [hd] at CS1
      cases gk with
      | zero => exact absurd hin (by have := hf.out; unfold firstI at this; rw [this]; exact hfree)
      | succ g =>
        have hf2 : firstI g (nxt y) ids = Y := by have := hf.out; unfold firstI at this; rwa [if_pos hin] at this
        have hr := nxt_range y
        unfold nxt at hf2 hr
        go_wp2_with (first
          | (go_at_call 141; refine CS1.out.mono ?_; rintro e w1 ⟨rfl, hb1⟩)
          | (go_at_call 142; refine (CB.out _).mono ?_; rintro e w2 ⟨rfl, rfl⟩))
        go_roundg g
        case rel => exact ⟨_, rfl, hr, hid hf2, hb.trans (hb1.mono hb.size)⟩
        case measure => omega
    · have hd : decide (y.toNat ∈ ids) = false := decide_eq_false hin
      rw [hd] at CS1
      go_wp2_with (first
          | (go_at_call 141; refine CS1.out.mono ?_; rintro e w1 ⟨rfl, hb1⟩)
          | (go_at_call 142; refine (CB.out _).mono ?_; rintro e w2 ⟨rfl, rfl⟩))
      have hyy : y = Y := by
        have := hf.out
        cases gk with
        | zero => exact this
        | succ g => unfold firstI at this; rwa [if_neg hin] at this
      go_ret
      exact ⟨by rw [← hyy]; rfl, hb.trans (hb1.mono hb.size)⟩
end Go.Proofs.YtoinabapaeebfaaGreatDoor
