/- Contracts of package outbox (part 13): slices.Delete. -/
import Derived.Test.YtodbdojjllabmaaGreatDoorOutL
import Derived.Lib.SliceRun
namespace Go.Proofs.YtodbdojjllabmaaGreatDoor
open Go.RowKit Go.Shelf

section
variable {P : Program} {ops : Array Oper} {KQ : Act → World → Prop} {facts : List Fact} {taken : List Nat} {a : Act} {w : World}
theorem sliceQ (i : Nat) {oi : Oper} (hi : ops[i]? = some oi) (hB : takeB ops (facts.map (·.1)) taken i = true) (hw : Region.wanted oi (yielded ops a.tmps) = true) {t : TypeId} {x : Operand} {lo hi' mx : Option Operand} (hop : oi.op = .slice t x lo hi' mx) (hu : P.underlying t = some (.slice (P.elem t)))
    (v : Value) (hr : ∀ w', (Instr.slice t (a.eval x) (lo.map a.eval) (hi'.map a.eval) (mx.map a.eval)).run P w' = .ok v w')
    (h : atR P ops KQ facts (i :: taken) (a.put oi.dst v) w) : atR P ops KQ facts taken a w := by
  refine readQ i hi hB v hw (fun w' _ => ?_) h
  have hr2 : ∀ w', (Instr.sliceAt t (a.eval x) (lo.map a.eval) (hi'.map a.eval) (mx.map a.eval)).run P w' = .ok v w' := fun w' => (run_sliceAt_slice (h := hu) ..).trans (hr w')
  simp only [execOp, hop, Sem.run_bind, hr2, Result.andThen_ok, Sem.run_pure]
theorem wp_append_room {o : Oper} {K : Act → World → Prop} {Q : Exit → Act → World → Prop} {t e : TypeId} {z : Value} {bytes : Nat} (s x : Operand)
    (ho : o.op = .call { callee := .builtin .append, args := #[s, x], argTypes := #[t, t] }) (E : ElemT P t e z 1 bytes) (g sLen sCap : Nat) (cur : Array Value) (hs : a.eval s = .slice (some ⟨g, 0, none⟩) sLen sCap) (hg : w.heap[g]? = some (.cells cur e (0, 0)))
    (ad : Addr) (m c : Nat) (news : List Value) (hx : a.eval x = .slice (some ad) m c) (hl : news.length = m) (hnews : ∀ j u, news[j]? = some u → w.cell? (ad.add j) = some u) (h1 : ∀ u ∈ news, u.oneCell' = true)
    (hroom : sLen + m ≤ sCap) (hfit : sLen + news.length ≤ cur.size)
    (h : K (a.put o.dst (.slice (some ⟨g, 0, none⟩) (sLen + m) sCap)) (w.setRow g (cur.toList.take sLen ++ news ++ cur.toList.drop (sLen + news.length)).toArray)) : o.wp P a w K Q := by
  obtain ⟨i, hi, hz0, hz1, hz2⟩ := info_parts E.info
  have hr := run_append_room (P := P) w t o.type e i E.ht hi g sLen sCap cur hg ad m c news (by rw [hz1]; omega) hnews h1 hroom (by rw [hz1]; omega)
  rw [hz1, Nat.mul_one] at hr
  unfold Oper.wp execOp
  simp only [ho, resolve, invoke, builtin, Sem.run_bind, Sem.run_pure, Result.andThen_ok, List.map_toArray, List.map_cons, List.map_nil, hs, hx, hr]
  exact h
end

theorem Tryz.szR (W : World) : (sizeOf (Tryz.prog.elem 75)).run Tryz.prog W = .ok 1 W := by kernel_rfl
theorem Tryz.uelR : Tryz.prog.underlying 75 = some (.slice (Tryz.prog.elem 75)) := by kernel_rfl

set_option maxRecDepth 100000 in
set_option maxHeartbeats 400000 in
theorem sl_Delete {w : World} {v : Value} {n : Nat} {xs : List Value} (h : w.ownsRow 0 84 1 v n xs) (hone : ∀ u ∈ xs, u.oneCell' = true) (i : Nat) (hi : i < n) (hn : n ≤ 1000000) :
    Calls Tryz.prog 115 #[v, .int .i64 i, .int .i64 ((i : Int) + 1)] w fun e w' => ∃ v', e = .returned v' ∧ w'.ownsRow 0 84 1 v' (n - 1) (xs.eraseIdx i) ∧ v'.ownBlock = v.ownBlock ∧ Wrote (blk v) w w' := by
  obtain ⟨hl, ⟨rfl, rfl⟩ | ⟨g, cap, cur, rfl, _, hg, hnc, hcm, hcs, ht⟩⟩ := h
  · omega
  obtain ⟨m, rfl⟩ : ∃ m, n = m + 1 := ⟨n - 1, by omega⟩
  have d1 : decide ((i : Int) < 0) = false := decide_eq_false (by omega)
  have hni : (m : Int) + 1 ≤ cap := by omega
  have hii : (i : Int) ≤ m := by omega
  have hii2 : i ≤ m := by omega
  go_enter Tryz.func115, Tryz.ntmps115
  go_wp2
  have hcut := fun W => run_cut_l Tryz.uelR Tryz.szR (some ⟨g, 0, none⟩) (m + 1) cap ((i : Int) + 1) (i + 1) (by omega) (by omega) W
  refine regionQ [] (by kernel_rfl) trivial fun KQ hKQ => ?_
  refine takeQ 0 rfl (by kernel_rfl) rfl (by kernel_rfl) fun K hK => ?_
  simp only [List.getElem_toArray, List.getElem_cons_zero, List.getElem_cons_succ]
  go_big_quiet_op
  refine hK _ ?_
  clear hK K
  refine takeQ 1 rfl (by kernel_rfl) rfl (by kernel_rfl) fun K hK => ?_
  simp only [List.getElem_toArray, List.getElem_cons_zero, List.getElem_cons_succ]
  go_big_quiet_op
  refine hK _ ?_
  clear hK K
  refine takeQ 2 rfl (by kernel_rfl) rfl (by kernel_rfl) fun K hK => ?_
  simp only [List.getElem_toArray, List.getElem_cons_zero, List.getElem_cons_succ]
  go_big_quiet_op
  refine hK _ ?_
  clear hK K
  refine takeQ 3 rfl (by kernel_rfl) rfl (by kernel_rfl) fun K hK => ?_
  simp only [List.getElem_toArray, List.getElem_cons_zero, List.getElem_cons_succ]
  go_big_quiet_op
  refine hK _ ?_
  clear hK K
  refine takeQ 4 rfl (by kernel_rfl) rfl (by kernel_rfl) fun K hK => ?_
  simp only [List.getElem_toArray, List.getElem_cons_zero, List.getElem_cons_succ]
  go_big_quiet_op
  refine hK _ ?_
  clear hK K
  refine sliceQ 5 rfl (by kernel_rfl) (by kernel_rfl) rfl Tryz.uelR _ hcut ?_
  simp only [Act.put, List.getElem_toArray, List.getElem_cons_zero, List.getElem_cons_succ, List.setIfInBounds_toArray, List.set_cons_zero, List.set_cons_succ]
  have hcutA : ∃ o, cutA (some (⟨g, 0, none⟩ : Addr)) cap (i + 1) = some ⟨g, o, none⟩ ∧ (i + 1 < m + 1 → o = i + 1) := by
    unfold cutA
    split
    · exact ⟨0, rfl, fun _ => by omega⟩
    · exact ⟨i + 1, by simp [Addr.add], fun _ => rfl⟩
  obtain ⟨of, hof, hof2⟩ := hcutA
  rw [hof]
  have hxl : xs.length = m + 1 := by simpa using hl
  have hcs' : cur.size = cap := by simpa using hcs
  refine stepQ 6 rfl (by kernel_rfl) (by decide) (by kernel_rfl) fun K hK => ?_
  simp only [List.getElem_toArray, List.getElem_cons_zero, List.getElem_cons_succ]
  refine wp_append_room _ _ rfl eRowP g i cap cur rfl hg ⟨g, of, none⟩ (m + 1 - (i + 1)) (cap - (i + 1)) (xs.drop (i + 1)) rfl (by simp [hxl]) ?_ ?_ (by omega) (by simp; omega) ?_
  · intro j u hj
    have hlt := (List.getElem?_eq_some_iff.1 hj).1
    simp at hlt
    rw [List.getElem?_drop] at hj
    rw [hof2 (by omega)]
    have h1 : w.drew.cell? ⟨g, i + 1 + j, none⟩ = cur[i + 1 + j]? := by
      have := Blk.cell (w := w.drew) (b := g) (cs := cur) (T := 84) hg (i + 1 + j)
      exact this
    have h2 : cur[i + 1 + j]? = some u := by
      rw [← ht, List.getElem?_take_of_lt (by omega)] at hj
      simpa using hj
    rw [← h2, ← h1]
    by_cases h0 : j = 0
    · subst h0; simp [Addr.add]
    · simp [Addr.add, h0]
  · exact fun u hu => hone u (List.mem_of_mem_drop hu)
  rw [show i + (m + 1 - (i + 1)) = m by omega]
  obtain ⟨ROW, hROW⟩ : ∃ ROW : Array Value, (List.take i cur.toList ++ List.drop (i + 1) xs ++ List.drop (i + (List.drop (i + 1) xs).length) cur.toList).toArray = ROW := ⟨_, rfl⟩
  rw [hROW]
  have hB1 : Blk (w.drew.setRow g ROW) g ROW 84 := setRow_heap w.drew g cur ROW 84 (0, 0) hg
  have hW1 : Wrote [g] w (w.drew.setRow g ROW) := ⟨rfl, rfl, rfl, by simp [World.setRow], (setRow_wrote (w := w.drew) g ROW).block⟩
  refine hK _ _ ⟨trivial, ?_⟩
  clear hK K
  simp only [Act.put, List.getElem_toArray, List.getElem_cons_zero, List.getElem_cons_succ, List.setIfInBounds_toArray, List.set_cons_zero, List.set_cons_succ]
  refine takeQ 7 rfl (by kernel_rfl) rfl (by kernel_rfl) fun K hK => ?_
  simp only [List.getElem_toArray, List.getElem_cons_zero, List.getElem_cons_succ]
  go_big_quiet_op
  refine hK _ ?_
  clear hK K
  refine doneQ (by kernel_rfl) (hKQ.out _ _ ?_)
  clear hKQ KQ
  have hrs : ROW.size = cap := by rw [← hROW]; simp; omega
  have hrt : ROW.toList.take m = xs.eraseIdx i := by
    rw [← hROW, List.eraseIdx_eq_take_drop_succ]
    have e1 : List.take i cur.toList = List.take i xs := by rw [← ht, List.take_take]; congr 1; omega
    rw [e1]
    simp only [List.toList_toArray]
    rw [List.take_append_of_le_length (by simp; omega), List.take_of_length_le (by simp; omega)]
  obtain ⟨w1, hw1⟩ : ∃ w1, w.drew.setRow g ROW = w1 := ⟨_, rfl⟩
  rw [hw1] at hB1 hW1 ⊢
  clear hw1 hROW hcut
  have hcl : ∀ ty, (Builtin.clear_ #[75] ty #[.slice (some ⟨g, m, none⟩) 1 (cap - m)]).run Tryz.prog w1 = .ok (.tuple #[]) (w1.setCells g m (List.replicate 1 (.pointer none))) :=
    fun ty => Lib.run_clear_slice w1 75 84 ty (.pointer none) Tryz.underlying75 Tryz.zeroValue84 rfl rfl g m 1 (cap - m) (by decide) (fun j hj => by
      obtain rfl : j = 0 := by omega
      rw [hB1.cell]; simp [hrs]; omega) (fun j hj => hB1.frozen _)
  go_wp2
  go_ret
  have hB2 := hB1.set m (.pointer none)
  refine ⟨_, rfl, ⟨?_, .inr ⟨g, cap, _, rfl, Nat.zero_le _, hB2, by omega, hcm, by simp [hrs], ?_⟩⟩, rfl, (hW1.trans (Wrote.setCell (M := [g]) w1 ⟨g, m, none⟩ (by simp) _)).sub (by simp [blk, Value.ownBlock])⟩
  · rw [List.length_eraseIdx]; simp [hxl]; omega
  · rw [← hrt]
    simp only [Nat.add_sub_cancel, Nat.mul_one, Array.toList_setIfInBounds]
    rw [List.take_set_of_le (by omega)]
end Go.Proofs.YtodbdojjllabmaaGreatDoor
