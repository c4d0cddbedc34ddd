/- The law's function does: a call, and the reference's. -/
import Derived.Test.YtoinabapaeebfaaGreatDoorPk15
set_option linter.unusedSimpArgs false
set_option linter.unusedVariables false
namespace Go.Proofs.YtoinabapaeebfaaGreatDoor
open Go.RowKit Go.Shelf

structure DoneIs (w w' : World) (L L' : Lay) (y : SS) (a : Option Addr) (n c : Nat) : Prop where
  ob : OB w' w'.heap.size L' y.s [] []
  nil : L'.vp = .slice none 0 0 ∧ L'.vc = .slice none 0 0
  p : L'.p = L.p
  stp : Stp L.foot L'.foot w w'
  cnt : n = y.cs.length
  chgs : w'.ownsRow w.heap.size 115 10 (.slice a n c) n (y.cs.flatMap ChangeV.cells)

set_option maxRecDepth 100000 in
set_option maxHeartbeats 4000000 in
theorem law_does {w : World} {B : Nat} {L : Lay} {s : OS} (h : OB w B L s [] []) (hn : L.vp = .slice none 0 0 ∧ L.vc = .slice none 0 0) (x : ActV) (ht : x.topic.length ≤ 4000000) (hseq : s.seq ≤ 4611686018427387904) :
    Calls Tryz.prog 11 #[.pointer (some ⟨L.p, 0, none⟩), .agg (refA (.slice none 0 0)), .agg x.cells] w fun e w' => ∃ a n c b L', e = .returned (.tuple #[.agg (refA (.slice none 0 0)), .slice a n c, .bool b]) ∧ DoneIs w w' L L' (s.does x) a n c := by
  have h := hid h; have hn := hid hn; have ht := hid ht; have hseq := hid hseq
  unfold refA
  by_cases h1 : x.kind = 1
  · have hs : s.does x = s.doPut x := by unfold OS.does; rw [if_pos h1]
    rw [hs]
    clear hs
    go_enter Tryz.func11, Tryz.ntmps11
    go_upto_region 3 with (fail)
    obtain ⟨W, hW⟩ : ∃ W, W = (((((w.alloc (.cells zA 38)).alloc (.cells x.cells 43)).alloc (.cells zA 38)).alloc (.cells #[.slice none 0 0, .slice none 0 0] 53)).alloc (.cells #[.slice none 0 0, .slice none 0 0] 53)) := ⟨_, rfl⟩
    have B4 : Blk W w.heap.size zA 38 := by rw [hW]; exact ((((Blk.new w _ _).alloc _).alloc _).alloc _).alloc _
    have B5 : Blk W (w.heap.size + 1) x.cells 43 := by rw [hW]; exact (((Blk.new_at _ _ _ _ (by simp)).alloc _).alloc _).alloc _
    have B6 : Blk W (w.heap.size + 1 + 1) zA 38 := by rw [hW]; exact ((Blk.new_at _ _ _ _ (by simp)).alloc _).alloc _
    have B9 : Blk W (w.heap.size + 1 + 1 + 1) #[.slice none 0 0, .slice none 0 0] 53 := by rw [hW]; exact (Blk.new_at _ _ _ _ (by simp)).alloc _
    have BT : Blk W (w.heap.size + 1 + 1 + 1 + 1) #[.slice none 0 0, .slice none 0 0] 53 := by rw [hW]; exact Blk.new_at _ _ _ _ (by simp)
    have BB : Below w.heap.size w W := by
      rw [hW]
      repeat (first | exact Below.refl _ _ | (refine Below.setCell ?_ (by simp <;> omega) _) | (refine Below.alloc ?_ (by simp <;> omega) _) | refine Below.drew ?_)
    refine wp_world hW.symm ?_
    clear hW
    have x0 : W.cell? ⟨w.heap.size + 1, 0, none⟩ = some (.int .i64 x.kind) := B5.cell 0
    have x1 : W.cell? ⟨w.heap.size + 1, 1, none⟩ = some (.int .i64 x.qos) := B5.cell 1
    have x2 : W.cell? ⟨w.heap.size + 1, 2, none⟩ = some (.string ⟨x.topic.toArray⟩) := B5.cell 2
    have x3 : W.cell? ⟨w.heap.size + 1, 3, none⟩ = some (.string ⟨x.body.toArray⟩) := B5.cell 3
    have x4 : W.cell? ⟨w.heap.size + 1, 4, none⟩ = some (.bool x.retain) := B5.cell 4
    have x5 : W.cell? ⟨w.heap.size + 1, 5, none⟩ = some (.int .i64 x.pack) := B5.cell 5
    have x6 : W.cell? ⟨w.heap.size + 1, 6, none⟩ = some (.int .i64 x.id) := B5.cell 6
    rw [h1] at x0
    have OC := hid (act_Put (h.out.below BB) hn.out x ht.out hseq.out)
    have RC := hid (ref_Put x.topic x.body x.qos x.retain)
    have BB := hid BB; have B4 := hid B4; have B5 := hid B5; have B6 := hid B6; have B9 := hid B9; have BT := hid BT
    go_wp2_with fail
    refine OC.out.mono ?_
    rintro e w1 ⟨_, _, no, L1, rfl, d⟩
    obtain ⟨ap, cp, rfl⟩ := own_slice d.packs
    obtain ⟨ac, cc, rfl⟩ := own_slice d.chgs
    generalize hps : SS.ps _ = ps at *
    generalize hcs : SS.cs _ = cs at *
    have hcs := hid hcs
    have hps := hid hps
    have hf : ∀ i, w.heap.size ≤ i → i < W.heap.size → i ∉ L1.foot := fun i h1 h2 => d.stp.not (fun hx => by have := h.out.lt _ hx; omega) h2
    have hf0 : ∀ i, w.heap.size ≤ i → i ∉ L.foot := fun i h1 hx => by have := h.out.lt _ hx; omega
    have s0 := B4.out.lt; have s2 := B6.out.lt; have s3 := B9.out.lt; have s4 := BT.out.lt; have s5 := B5.out.lt
    have C4 := B4.out.wrote d.stp.wrote (hf0 _ (by omega))
    have C5 := B5.out.wrote d.stp.wrote (hf0 _ (by omega))
    have C6 := B6.out.wrote d.stp.wrote (hf0 _ (by omega))
    have C9 := B9.out.wrote d.stp.wrote (hf0 _ (by omega))
    have CT := BT.out.wrote d.stp.wrote (hf0 _ (by omega))
    obtain ⟨nc, hnc⟩ : ∃ nc, cs.length = nc := ⟨_, rfl⟩
    obtain ⟨np, hnp⟩ : ∃ np, ps.length = np := ⟨_, rfl⟩
    have D := hid d
    have hf := hid hf
    clear d hf0
    rw [hnc, hnp]
    replace hnc := hid hnc
    replace hnp := hid hnp
    have y2 : w1.cell? ⟨w.heap.size + 1, 2, none⟩ = some (.string ⟨x.topic.toArray⟩) := C5.cell 2
    have y3 : w1.cell? ⟨w.heap.size + 1, 3, none⟩ = some (.string ⟨x.body.toArray⟩) := C5.cell 3
    have y1 : w1.cell? ⟨w.heap.size + 1, 1, none⟩ = some (.int .i64 x.qos) := C5.cell 1
    have y4 : w1.cell? ⟨w.heap.size + 1, 4, none⟩ = some (.bool x.retain) := C5.cell 4
    have y5 : w1.cell? ⟨w.heap.size + 1, 5, none⟩ = some (.int .i64 x.pack) := C5.cell 5
    have y6 : w1.cell? ⟨w.heap.size + 1, 6, none⟩ = some (.int .i64 x.id) := C5.cell 6
    have C4 := hid C4; have C5 := hid C5; have C6 := hid C6; have C9 := hid C9; have CT := hid CT
    go_wp2_with (first
      | (refine wpList_store_blk rfl 53 53 _ _ rfl 2 (fun w => by kernel_rfl) (w.heap.size + 1 + 1 + 1) _ #[.slice ap np cp, .slice ac nc cc] rfl rfl C9.out rfl rfl (by simp [Value.oneCell']) fun w2 h2 g2 => ?_
         have D4 := C4.out.wrote g2 (by simp; omega)
         have D5 := C5.out.wrote g2 (by simp)
         have D6 := C6.out.wrote g2 (by simp)
         have DT := CT.out.wrote g2 (by simp)
         have z2 : w2.cell? ⟨w.heap.size + 1, 2, none⟩ = some (.string ⟨x.topic.toArray⟩) := D5.cell 2
         have z3 : w2.cell? ⟨w.heap.size + 1, 3, none⟩ = some (.string ⟨x.body.toArray⟩) := D5.cell 3
         have z1 : w2.cell? ⟨w.heap.size + 1, 1, none⟩ = some (.int .i64 x.qos) := D5.cell 1
         have z4 : w2.cell? ⟨w.heap.size + 1, 4, none⟩ = some (.bool x.retain) := D5.cell 4
         have z5 : w2.cell? ⟨w.heap.size + 1, 5, none⟩ = some (.int .i64 x.pack) := D5.cell 5
         have z6 : w2.cell? ⟨w.heap.size + 1, 6, none⟩ = some (.int .i64 x.id) := D5.cell 6
         have D9 := hid h2; have D4 := hid D4; have D6 := hid D6; have DT := hid DT; have G2 := hid g2
         clear g2 h2)
      | (refine wpList_load_blk rfl 38 _ rfl w.heap.size #[.string ⟨#[]⟩, .int .i64 0, .int .i64 0, .int .i64 0, .int .i64 0, .slice none 0 0, .slice none 0 0, .slice none 0 0] rfl D4.out Tryz.underlying38 rfl (by kernel_rfl) ?_))
    refine (RC.out _).mono ?_
    rintro e w3 ⟨a, nn, c, no2, qs, rfl, hnq, hq, hb3⟩
    have r3 := hid hb3
    have RQ := hid hq
    replace hnq := hid hnq
    replace D4 := hid (D4.out.below hb3)
    replace D6 := hid (D6.out.below hb3)
    replace D9 := hid (D9.out.below hb3)
    replace DT := hid (DT.out.below hb3)
    clear hb3 hq
    go_wp2_with (first
      | (refine wpList_store_blk rfl 38 38 _ _ rfl 8 (fun w => by kernel_rfl) w.heap.size _ #[.string ⟨#[]⟩, .int .i64 0, .int .i64 0, .int .i64 0, .int .i64 0, .slice none 0 0, .slice none 0 0, .slice none 0 0] rfl rfl D4.out rfl rfl (by simp [Value.oneCell']) fun w4 h4 g4 => ?_
         have E6 := hid (D6.out.wrote g4 (by simp <;> omega))
         have E9 := hid (D9.out.wrote g4 (by simp; omega))
         have ET := hid (DT.out.wrote g4 (by simp <;> omega))
         have E4 := hid h4
         have G4 := hid g4
         clear h4 g4)
      | (refine wpList_store_blk rfl 53 53 _ _ rfl 2 (fun w => by kernel_rfl) (w.heap.size + 1 + 1 + 1 + 1) _ #[.slice a nn c, .slice none 0 0] rfl rfl ET.out rfl rfl (by simp [Value.oneCell']) fun w5 h5 g5 => ?_
         have F4 := hid (E4.out.wrote g5 (by simp; omega))
         have F6 := hid (E6.out.wrote g5 (by simp))
         have F9 := hid (E9.out.wrote g5 (by simp))
         have FT := hid h5
         have G5 := hid g5
         clear h5 g5))
    have hbps : Hid (ps.length ≤ 100000) := hid (by rw [← hps.out]; unfold OS.doPut; split <;> simp)
    have hbcs : Hid (cs.length ≤ 100000) := hid (by rw [← hcs.out]; unfold OS.doPut; split <;> simp)
    by_cases hno : no = no2
    · subst hno
      have SD := hid fun (X : World) (e1 : X.ownsRow 0 81 24 (.slice ap np cp) np (ps.flatMap PackV.cells)) (e2 : X.ownsRow 0 115 10 (.slice ac nc cc) nc (cs.flatMap ChangeV.cells)) (e3 : X.ownsRow 0 81 24 (.slice a nn c) nn (qs.flatMap PackV.cells)) => by
        have h0 := r_SameDid ps qs cs [] ap ac a none cp cc c 0 X (by rw [hnp.out]; exact e1) (by rw [hnc.out]; exact e2) (by rw [← hnq.out]; exact e3) (World.ownsRow_nil _ _ _ _) (fun h => List.eq_nil_of_length_eq_zero h) hbps.out hbcs.out
        rw [hnp.out, hnc.out, ← hnq.out] at h0
        exact h0
      have hw5 := hid (show Wrote [w.heap.size, w.heap.size + 1 + 1 + 1, w.heap.size + 1 + 1 + 1 + 1] w1 w5 from (((G2.out.sub (by simp)).trans (Wrote.of_below r3.out)).trans (G4.out.sub (by simp))).trans (G5.out.sub (by simp)))
      have hn1 : ∀ i, i ∈ [w.heap.size, w.heap.size + 1 + 1 + 1, w.heap.size + 1 + 1 + 1 + 1] → i < W.heap.size := by simp; omega
      have rp := (ownsRow_mono (base' := 0) (not_own D.out.packs hw5.out (fun i hi hb => by have := (D.out.packs.lt i (mem_blk.1 hb)).1; have := hn1 i hi; omega)) (Nat.zero_le _))
      rw [hnp.out] at rp
      have RP := hid rp
      have rc := (not_own D.out.chgs hw5.out (fun i hi hb => by have := (D.out.chgs.lt i (mem_blk.1 hb)).1; have := hn1 i hi; omega))
      rw [hnc.out] at rc
      have RC0 := hid rc
      clear rp rc
      have w2s : w.heap.size + 1 + 1 + 1 + 1 < w2.heap.size := by have := D.out.stp.size; have := G2.out.size; omega
      have RQ5 := hid (ownsRow_mono (base' := 0) (not_own (not_own RQ.out G4.out (fun i hi hb => by have := (RQ.out.lt i (mem_blk.1 hb)).1; simp at hi; omega)) G5.out (fun i hi hb => by
        have := ((not_own RQ.out G4.out (fun i hi hb => by have := (RQ.out.lt i (mem_blk.1 hb)).1; simp at hi; omega)).lt i (mem_blk.1 hb)).1; simp at hi; omega)) (Nat.zero_le _))
      clear hn1
      refine regionQ [(1000, fun w' => Blk w' w.heap.size #[.string ⟨#[]⟩, .int .i64 0, .int .i64 0, .int .i64 0, .int .i64 0, .slice none 0 0, .slice none 0 0, .slice none 0 0] 38), (1000, fun w' => Blk w' (w.heap.size + 1 + 1 + 1) #[.slice ap np cp, .slice ac nc cc] 53), (1000, fun w' => Blk w' (w.heap.size + 1 + 1 + 1 + 1) #[.slice a nn c, .slice none 0 0] 53)] (by kernel_rfl) ⟨F4.out, F9.out, FT.out, trivial⟩ fun KQ hKQ => ?_
      refine loadQ 0 rfl (by kernel_rfl) (by kernel_rfl) rfl rfl 0 rfl (by kernel_rfl) _ (fun w' hf => run_load_blk hf 38 Tryz.underlying38 rfl (by kernel_rfl)) ?_
      simp only [Act.put, List.getElem_toArray, List.getElem_cons_zero, List.getElem_cons_succ, List.setIfInBounds_toArray, List.set_cons_zero, List.set_cons_succ]
      refine takeQ 1 rfl (by kernel_rfl) rfl (by kernel_rfl) fun K hK => ?_
      simp only [List.getElem_toArray, List.getElem_cons_zero, List.getElem_cons_succ]
      go_big_quiet_op
      refine hK _ ?_
      clear hK K
      refine loadQ 2 rfl (by kernel_rfl) (by kernel_rfl) rfl rfl 1 rfl (by kernel_rfl) _ (fun w' hf => by (have k1 := hf.cell 1; simp at k1; go_simp <;> with_reducible rfl)) ?_
      simp only [Act.put, List.getElem_toArray, List.getElem_cons_zero, List.getElem_cons_succ, List.setIfInBounds_toArray, List.set_cons_zero, List.set_cons_succ]
      refine takeQ 3 rfl (by kernel_rfl) rfl (by kernel_rfl) fun K hK => ?_
      simp only [List.getElem_toArray, List.getElem_cons_zero, List.getElem_cons_succ]
      go_big_quiet_op
      refine hK _ ?_
      clear hK K
      refine takeQ 4 rfl (by kernel_rfl) rfl (by kernel_rfl) fun K hK => ?_
      simp only [List.getElem_toArray, List.getElem_cons_zero, List.getElem_cons_succ]
      go_big_quiet_op
      refine hK _ ?_
      clear hK K
      refine takeQ 5 rfl (by kernel_rfl) rfl (by kernel_rfl) fun K hK => ?_
      simp only [List.getElem_toArray, List.getElem_cons_zero, List.getElem_cons_succ]
      go_big_quiet_op
      refine hK _ ?_
      clear hK K
      refine takeQ 6 rfl (by kernel_rfl) rfl (by kernel_rfl) fun K hK => ?_
      simp only [List.getElem_toArray, List.getElem_cons_zero, List.getElem_cons_succ]
      go_big_quiet_op
      refine hK _ ?_
      clear hK K
      refine loadQ 7 rfl (by kernel_rfl) (by kernel_rfl) rfl rfl 1 rfl (by kernel_rfl) _ (fun w' hf => run_load_blk hf 53 Tryz.underlying53 rfl (by kernel_rfl)) ?_
      simp only [Act.put, List.getElem_toArray, List.getElem_cons_zero, List.getElem_cons_succ, List.setIfInBounds_toArray, List.set_cons_zero, List.set_cons_succ]
      refine loadQ 8 rfl (by kernel_rfl) (by kernel_rfl) rfl rfl 2 rfl (by kernel_rfl) _ (fun w' hf => run_load_blk hf 53 Tryz.underlying53 rfl (by kernel_rfl)) ?_
      simp only [Act.put, List.getElem_toArray, List.getElem_cons_zero, List.getElem_cons_succ, List.setIfInBounds_toArray, List.set_cons_zero, List.set_cons_succ]
      refine stepQ 9 rfl (by kernel_rfl) (by decide) (by kernel_rfl) fun K hK => ?_
      simp only [List.getElem_toArray, List.getElem_cons_zero, List.getElem_cons_succ]
      go_simp
      refine (SD.out _ RP.out.drew (ownsRow_mono (base' := 0) RC0.out (Nat.zero_le _)).drew RQ5.out.drew).mono ?_
      rintro e w6 ⟨⟨bb, rfl, -⟩, hb6⟩
      have I4 := F4.out.drew.below hb6
      have I6 := F6.out.drew.below hb6
      have I9 := F9.out.drew.below hb6
      have IT := FT.out.drew.below hb6
      have IC := ownsRow_below RC0.out.drew hb6
      have hb6 := (Below.refl w5.heap.size w5).drew.trans hb6
      refine hK _ _ ⟨⟨fun _ => I4, fun _ => I9, fun _ => IT, trivial⟩, ?_⟩
      clear hK K
      try simp only [Act.put, List.getElem_toArray, List.getElem_cons_zero, List.getElem_cons_succ, List.setIfInBounds_toArray, List.set_cons_zero, List.set_cons_succ]
      refine takeQ 10 rfl (by kernel_rfl) rfl (by kernel_rfl) fun K hK => ?_
      simp only [List.getElem_toArray, List.getElem_cons_zero, List.getElem_cons_succ]
      go_big_quiet_op
      refine hK _ ?_
      clear hK K
      refine stepQ 11 rfl (by kernel_rfl) (by decide) (by kernel_rfl) fun K hK => ?_
      simp only [List.getElem_toArray, List.getElem_cons_zero, List.getElem_cons_succ]
      refine wp_store_whole 38 38 _ _ rfl 8 (fun w => by kernel_rfl) (w.heap.size + 1 + 1) _ #[.string ⟨#[]⟩, .int .i64 0, .int .i64 0, .int .i64 0, .int .i64 0, .slice none 0 0, .slice none 0 0, .slice none 0 0] rfl rfl I6 rfl rfl (by simp [Value.oneCell']) fun w7 h7 g7 => ?_
      have hw7 : Wrote [w.heap.size, w.heap.size + 1 + 1 + 1, w.heap.size + 1 + 1 + 1 + 1, w.heap.size + 1 + 1] w1 w7 := ((hw5.out.sub (by simp)).trans (Wrote.of_below hb6)).trans (g7.sub (by simp))
      have J4 := I4.wrote g7 (by simp <;> omega)
      have J9 := I9.wrote g7 (by simp <;> omega)
      have JT := IT.wrote g7 (by simp <;> omega)
      have JC := not_own IC g7 (fun i hi hb => by have := (IC.lt i (mem_blk.1 hb)).1; simp at hi; omega)
      refine hK _ _ ⟨⟨fun _ => J4, fun _ => J9, fun _ => JT, trivial⟩, ?_⟩
      clear hK K
      try simp only [Act.put, List.getElem_toArray, List.getElem_cons_zero, List.getElem_cons_succ, List.setIfInBounds_toArray, List.set_cons_zero, List.set_cons_succ]
      refine takeQ 12 rfl (by kernel_rfl) rfl (by kernel_rfl) fun K hK => ?_
      simp only [List.getElem_toArray, List.getElem_cons_zero, List.getElem_cons_succ]
      go_big_quiet_op
      refine hK _ ?_
      clear hK K
      refine takeQ 13 rfl (by kernel_rfl) rfl (by kernel_rfl) fun K hK => ?_
      simp only [List.getElem_toArray, List.getElem_cons_zero, List.getElem_cons_succ]
      go_big_quiet_op
      refine hK _ ?_
      clear hK K
      refine doneQ (by kernel_rfl) (hKQ.out _ _ ?_)
      clear hKQ KQ
      go_wp2
      change bodyPost Tryz.prog Tryz.f11 _ _ _ _
      refine bodyPost_ret (v := .tuple #[.agg #[.string ⟨#[]⟩, .int .i64 0, .int .i64 0, .int .i64 0, .int .i64 0, .slice none 0 0, .slice none 0 0, .slice none 0 0], .slice ac nc cc, .bool bb]) ?_ rfl ⟨ac, nc, cc, bb, L1, rfl, ?_, D.out.nil, D.out.p, ?_, by rw [hcs.out, hnc.out], ?_⟩
      · exact results_ctt Tryz.results11 rfl (run_loadVar_blk (P := Tryz.prog) h7 38 Tryz.underlying38 rfl (by kernel_rfl)) rfl rfl
      · refine ob_rebase2 (D.out.ob.out hw7 (fun i hi => hf.out i ?_ ?_) ?_) D.out.nil
        · simp at hi; omega
        · simp at hi; omega
        · have := h.out.tz.lt; simp; omega
      · exact ((Stp.below BB.out).trans D.out.stp).fresh hw7 (fun i hi => by simp at hi; omega)
      · rw [hcs.out]
        exact ownsRow_mono JC (by have := BB.out.size; omega)
    · have dno : (no == no2) = false := by simpa using hno
      have SD := hid fun (X : World) (e1 : X.ownsRow 0 81 24 (.slice ap np cp) np (ps.flatMap PackV.cells)) (e2 : X.ownsRow 0 115 10 (.slice ac nc cc) nc (cs.flatMap ChangeV.cells)) (e3 : X.ownsRow 0 81 24 (.slice a nn c) nn (qs.flatMap PackV.cells)) => by
        have h0 := r_SameDid ps qs cs [] ap ac a none cp cc c 0 X (by rw [hnp.out]; exact e1) (by rw [hnc.out]; exact e2) (by rw [← hnq.out]; exact e3) (World.ownsRow_nil _ _ _ _) (fun h => List.eq_nil_of_length_eq_zero h) hbps.out hbcs.out
        rw [hnp.out, hnc.out, ← hnq.out] at h0
        exact h0
      have hw5 := hid (show Wrote [w.heap.size, w.heap.size + 1 + 1 + 1, w.heap.size + 1 + 1 + 1 + 1] w1 w5 from (((G2.out.sub (by simp)).trans (Wrote.of_below r3.out)).trans (G4.out.sub (by simp))).trans (G5.out.sub (by simp)))
      have hn1 : ∀ i, i ∈ [w.heap.size, w.heap.size + 1 + 1 + 1, w.heap.size + 1 + 1 + 1 + 1] → i < W.heap.size := by simp; omega
      have rp := (ownsRow_mono (base' := 0) (not_own D.out.packs hw5.out (fun i hi hb => by have := (D.out.packs.lt i (mem_blk.1 hb)).1; have := hn1 i hi; omega)) (Nat.zero_le _))
      rw [hnp.out] at rp
      have RP := hid rp
      have rc := (not_own D.out.chgs hw5.out (fun i hi hb => by have := (D.out.chgs.lt i (mem_blk.1 hb)).1; have := hn1 i hi; omega))
      rw [hnc.out] at rc
      have RC0 := hid rc
      clear rp rc
      have w2s : w.heap.size + 1 + 1 + 1 + 1 < w2.heap.size := by have := D.out.stp.size; have := G2.out.size; omega
      have RQ5 := hid (ownsRow_mono (base' := 0) (not_own (not_own RQ.out G4.out (fun i hi hb => by have := (RQ.out.lt i (mem_blk.1 hb)).1; simp at hi; omega)) G5.out (fun i hi hb => by
        have := ((not_own RQ.out G4.out (fun i hi hb => by have := (RQ.out.lt i (mem_blk.1 hb)).1; simp at hi; omega)).lt i (mem_blk.1 hb)).1; simp at hi; omega)) (Nat.zero_le _))
      clear hn1
      refine regionQ [(1000, fun w' => Blk w' w.heap.size #[.string ⟨#[]⟩, .int .i64 0, .int .i64 0, .int .i64 0, .int .i64 0, .slice none 0 0, .slice none 0 0, .slice none 0 0] 38), (1000, fun w' => Blk w' (w.heap.size + 1 + 1 + 1) #[.slice ap np cp, .slice ac nc cc] 53), (1000, fun w' => Blk w' (w.heap.size + 1 + 1 + 1 + 1) #[.slice a nn c, .slice none 0 0] 53)] (by kernel_rfl) ⟨F4.out, F9.out, FT.out, trivial⟩ fun KQ hKQ => ?_
      refine loadQ 0 rfl (by kernel_rfl) (by kernel_rfl) rfl rfl 0 rfl (by kernel_rfl) _ (fun w' hf => run_load_blk hf 38 Tryz.underlying38 rfl (by kernel_rfl)) ?_
      simp only [Act.put, List.getElem_toArray, List.getElem_cons_zero, List.getElem_cons_succ, List.setIfInBounds_toArray, List.set_cons_zero, List.set_cons_succ]
      refine takeQ 1 rfl (by kernel_rfl) rfl (by kernel_rfl) fun K hK => ?_
      simp only [List.getElem_toArray, List.getElem_cons_zero, List.getElem_cons_succ]
      go_big_quiet_op
      refine hK _ ?_
      clear hK K
      refine loadQ 2 rfl (by kernel_rfl) (by kernel_rfl) rfl rfl 1 rfl (by kernel_rfl) _ (fun w' hf => by (have k1 := hf.cell 1; simp at k1; go_simp <;> with_reducible rfl)) ?_
      simp only [Act.put, List.getElem_toArray, List.getElem_cons_zero, List.getElem_cons_succ, List.setIfInBounds_toArray, List.set_cons_zero, List.set_cons_succ]
      refine takeQ 3 rfl (by kernel_rfl) rfl (by kernel_rfl) fun K hK => ?_
      simp only [List.getElem_toArray, List.getElem_cons_zero, List.getElem_cons_succ]
      go_big_quiet_op
      refine hK _ ?_
      clear hK K
      refine takeQ 4 rfl (by kernel_rfl) rfl (by kernel_rfl) fun K hK => ?_
      simp only [List.getElem_toArray, List.getElem_cons_zero, List.getElem_cons_succ]
      go_big_quiet_op
      refine hK _ ?_
      clear hK K
      refine takeQ 5 rfl (by kernel_rfl) rfl (by kernel_rfl) fun K hK => ?_
      simp only [List.getElem_toArray, List.getElem_cons_zero, List.getElem_cons_succ]
      go_big_quiet_op
      refine hK _ ?_
      clear hK K
      refine takeQ 6 rfl (by kernel_rfl) rfl (by kernel_rfl) fun K hK => ?_
      simp only [List.getElem_toArray, List.getElem_cons_zero, List.getElem_cons_succ]
      go_big_quiet_op
      refine hK _ ?_
      clear hK K
      refine skipQ 7 rfl (by kernel_rfl) (by kernel_rfl) ?_
      simp only [Act.put, List.getElem_toArray, List.getElem_cons_zero, List.getElem_cons_succ, List.setIfInBounds_toArray, List.set_cons_zero, List.set_cons_succ]
      refine skipQ 8 rfl (by kernel_rfl) (by kernel_rfl) ?_
      simp only [Act.put, List.getElem_toArray, List.getElem_cons_zero, List.getElem_cons_succ, List.setIfInBounds_toArray, List.set_cons_zero, List.set_cons_succ]
      refine skipQ 9 rfl (by kernel_rfl) (by kernel_rfl) ?_
      simp only [Act.put, List.getElem_toArray, List.getElem_cons_zero, List.getElem_cons_succ, List.setIfInBounds_toArray, List.set_cons_zero, List.set_cons_succ]
      refine takeQ 10 rfl (by kernel_rfl) rfl (by kernel_rfl) fun K hK => ?_
      simp only [List.getElem_toArray, List.getElem_cons_zero, List.getElem_cons_succ]
      go_big_quiet_op
      refine hK _ ?_
      clear hK K
      have I4 := F4.out.drew
      have I6 := F6.out.drew
      have I9 := F9.out.drew
      have IT := FT.out.drew
      have IC := RC0.out.drew
      have hb6 := (Below.refl w5.heap.size w5).drew
      refine stepQ 11 rfl (by kernel_rfl) (by decide) (by kernel_rfl) fun K hK => ?_
      simp only [List.getElem_toArray, List.getElem_cons_zero, List.getElem_cons_succ]
      refine wp_store_whole 38 38 _ _ rfl 8 (fun w => by kernel_rfl) (w.heap.size + 1 + 1) _ #[.string ⟨#[]⟩, .int .i64 0, .int .i64 0, .int .i64 0, .int .i64 0, .slice none 0 0, .slice none 0 0, .slice none 0 0] rfl rfl I6 rfl rfl (by simp [Value.oneCell']) fun w7 h7 g7 => ?_
      have hw7 : Wrote [w.heap.size, w.heap.size + 1 + 1 + 1, w.heap.size + 1 + 1 + 1 + 1, w.heap.size + 1 + 1] w1 w7 := ((hw5.out.sub (by simp)).trans (Wrote.of_below hb6)).trans (g7.sub (by simp))
      have J4 := I4.wrote g7 (by simp <;> omega)
      have J9 := I9.wrote g7 (by simp <;> omega)
      have JT := IT.wrote g7 (by simp <;> omega)
      have JC := not_own IC g7 (fun i hi hb => by have := (IC.lt i (mem_blk.1 hb)).1; simp at hi; omega)
      refine hK _ _ ⟨⟨fun _ => J4, fun _ => J9, fun _ => JT, trivial⟩, ?_⟩
      clear hK K
      try simp only [Act.put, List.getElem_toArray, List.getElem_cons_zero, List.getElem_cons_succ, List.setIfInBounds_toArray, List.set_cons_zero, List.set_cons_succ]
      refine takeQ 12 rfl (by kernel_rfl) rfl (by kernel_rfl) fun K hK => ?_
      simp only [List.getElem_toArray, List.getElem_cons_zero, List.getElem_cons_succ]
      go_big_quiet_op
      refine hK _ ?_
      clear hK K
      refine takeQ 13 rfl (by kernel_rfl) rfl (by kernel_rfl) fun K hK => ?_
      simp only [List.getElem_toArray, List.getElem_cons_zero, List.getElem_cons_succ]
      go_big_quiet_op
      refine hK _ ?_
      clear hK K
      refine doneQ (by kernel_rfl) (hKQ.out _ _ ?_)
      clear hKQ KQ
      go_wp2
      change bodyPost Tryz.prog Tryz.f11 _ _ _ _
      refine bodyPost_ret (v := .tuple #[.agg #[.string ⟨#[]⟩, .int .i64 0, .int .i64 0, .int .i64 0, .int .i64 0, .slice none 0 0, .slice none 0 0, .slice none 0 0], .slice ac nc cc, .bool false]) ?_ rfl ⟨ac, nc, cc, false, L1, rfl, ?_, D.out.nil, D.out.p, ?_, by rw [hcs.out, hnc.out], ?_⟩
      · exact results_ctt Tryz.results11 rfl (run_loadVar_blk (P := Tryz.prog) h7 38 Tryz.underlying38 rfl (by kernel_rfl)) rfl rfl
      · refine ob_rebase2 (D.out.ob.out hw7 (fun i hi => hf.out i ?_ ?_) ?_) D.out.nil
        · simp at hi; omega
        · simp at hi; omega
        · have := h.out.tz.lt; simp; omega
      · exact ((Stp.below BB.out).trans D.out.stp).fresh hw7 (fun i hi => by simp at hi; omega)
      · rw [hcs.out]
        exact ownsRow_mono JC (by have := BB.out.size; omega)
  by_cases h2 : x.kind = 2
  · have hs : s.does x = s.start.all.fin s.seq s.id := by unfold OS.does; rw [if_neg h1, if_pos h2]
    rw [hs]
    clear hs
    go_enter Tryz.func11, Tryz.ntmps11
    go_upto_region 3 with (fail)
    obtain ⟨W, hW⟩ : ∃ W, W = (((((w.alloc (.cells zA 38)).alloc (.cells x.cells 43)).alloc (.cells zA 38)).alloc (.cells #[.slice none 0 0, .slice none 0 0] 53)).alloc (.cells #[.slice none 0 0, .slice none 0 0] 53)) := ⟨_, rfl⟩
    have B4 : Blk W w.heap.size zA 38 := by rw [hW]; exact ((((Blk.new w _ _).alloc _).alloc _).alloc _).alloc _
    have B5 : Blk W (w.heap.size + 1) x.cells 43 := by rw [hW]; exact (((Blk.new_at _ _ _ _ (by simp)).alloc _).alloc _).alloc _
    have B6 : Blk W (w.heap.size + 1 + 1) zA 38 := by rw [hW]; exact ((Blk.new_at _ _ _ _ (by simp)).alloc _).alloc _
    have B9 : Blk W (w.heap.size + 1 + 1 + 1) #[.slice none 0 0, .slice none 0 0] 53 := by rw [hW]; exact (Blk.new_at _ _ _ _ (by simp)).alloc _
    have BT : Blk W (w.heap.size + 1 + 1 + 1 + 1) #[.slice none 0 0, .slice none 0 0] 53 := by rw [hW]; exact Blk.new_at _ _ _ _ (by simp)
    have BB : Below w.heap.size w W := by
      rw [hW]
      repeat (first | exact Below.refl _ _ | (refine Below.setCell ?_ (by simp <;> omega) _) | (refine Below.alloc ?_ (by simp <;> omega) _) | refine Below.drew ?_)
    refine wp_world hW.symm ?_
    clear hW
    have x0 : W.cell? ⟨w.heap.size + 1, 0, none⟩ = some (.int .i64 x.kind) := B5.cell 0
    have x1 : W.cell? ⟨w.heap.size + 1, 1, none⟩ = some (.int .i64 x.qos) := B5.cell 1
    have x2 : W.cell? ⟨w.heap.size + 1, 2, none⟩ = some (.string ⟨x.topic.toArray⟩) := B5.cell 2
    have x3 : W.cell? ⟨w.heap.size + 1, 3, none⟩ = some (.string ⟨x.body.toArray⟩) := B5.cell 3
    have x4 : W.cell? ⟨w.heap.size + 1, 4, none⟩ = some (.bool x.retain) := B5.cell 4
    have x5 : W.cell? ⟨w.heap.size + 1, 5, none⟩ = some (.int .i64 x.pack) := B5.cell 5
    have x6 : W.cell? ⟨w.heap.size + 1, 6, none⟩ = some (.int .i64 x.id) := B5.cell 6
    rw [h2] at x0
    have OC := hid (out_Send (h.out.below BB) hn.out)
    have RC := hid ref_Send
    have BB := hid BB; have B4 := hid B4; have B5 := hid B5; have B6 := hid B6; have B9 := hid B9; have BT := hid BT
    have hbl := start_len s (by have := h.out.ok.room; omega)
    have hbps := hid hbl.1
    have hbcs := hid hbl.2
    clear hbl
    go_wp2_with fail
    refine OC.out.mono ?_
    rintro e w1 ⟨_, _, L1, rfl, d⟩
    obtain ⟨ap, cp, rfl⟩ := own_slice d.packs
    obtain ⟨ac, cc, rfl⟩ := own_slice d.chgs
    generalize hps : SS.ps _ = ps at *
    generalize hcs : SS.cs _ = cs at *
    have hcs := hid hcs
    have hps := hid hps
    have hf : ∀ i, w.heap.size ≤ i → i < W.heap.size → i ∉ L1.foot := fun i h1 h2 => d.stp.not (fun hx => by have := h.out.lt _ hx; omega) h2
    have hf0 : ∀ i, w.heap.size ≤ i → i ∉ L.foot := fun i h1 hx => by have := h.out.lt _ hx; omega
    have s0 := B4.out.lt; have s2 := B6.out.lt; have s3 := B9.out.lt; have s4 := BT.out.lt; have s5 := B5.out.lt
    have C4 := B4.out.wrote d.stp.wrote (hf0 _ (by omega))
    have C5 := B5.out.wrote d.stp.wrote (hf0 _ (by omega))
    have C6 := B6.out.wrote d.stp.wrote (hf0 _ (by omega))
    have C9 := B9.out.wrote d.stp.wrote (hf0 _ (by omega))
    have CT := BT.out.wrote d.stp.wrote (hf0 _ (by omega))
    obtain ⟨nc, hnc⟩ : ∃ nc, cs.length = nc := ⟨_, rfl⟩
    obtain ⟨np, hnp⟩ : ∃ np, ps.length = np := ⟨_, rfl⟩
    have D := hid d
    have hf := hid hf
    clear d hf0
    rw [hnc, hnp]
    replace hnc := hid hnc
    replace hnp := hid hnp
    have y2 : w1.cell? ⟨w.heap.size + 1, 2, none⟩ = some (.string ⟨x.topic.toArray⟩) := C5.cell 2
    have y3 : w1.cell? ⟨w.heap.size + 1, 3, none⟩ = some (.string ⟨x.body.toArray⟩) := C5.cell 3
    have y1 : w1.cell? ⟨w.heap.size + 1, 1, none⟩ = some (.int .i64 x.qos) := C5.cell 1
    have y4 : w1.cell? ⟨w.heap.size + 1, 4, none⟩ = some (.bool x.retain) := C5.cell 4
    have y5 : w1.cell? ⟨w.heap.size + 1, 5, none⟩ = some (.int .i64 x.pack) := C5.cell 5
    have y6 : w1.cell? ⟨w.heap.size + 1, 6, none⟩ = some (.int .i64 x.id) := C5.cell 6
    have C4 := hid C4; have C5 := hid C5; have C6 := hid C6; have C9 := hid C9; have CT := hid CT
    go_wp2_with (first
      | (refine wpList_store_blk rfl 53 53 _ _ rfl 2 (fun w => by kernel_rfl) (w.heap.size + 1 + 1 + 1) _ #[.slice ap np cp, .slice ac nc cc] rfl rfl C9.out rfl rfl (by simp [Value.oneCell']) fun w2 h2 g2 => ?_
         have D4 := C4.out.wrote g2 (by simp; omega)
         have D5 := C5.out.wrote g2 (by simp)
         have D6 := C6.out.wrote g2 (by simp)
         have DT := CT.out.wrote g2 (by simp)
         have z2 : w2.cell? ⟨w.heap.size + 1, 2, none⟩ = some (.string ⟨x.topic.toArray⟩) := D5.cell 2
         have z3 : w2.cell? ⟨w.heap.size + 1, 3, none⟩ = some (.string ⟨x.body.toArray⟩) := D5.cell 3
         have z1 : w2.cell? ⟨w.heap.size + 1, 1, none⟩ = some (.int .i64 x.qos) := D5.cell 1
         have z4 : w2.cell? ⟨w.heap.size + 1, 4, none⟩ = some (.bool x.retain) := D5.cell 4
         have z5 : w2.cell? ⟨w.heap.size + 1, 5, none⟩ = some (.int .i64 x.pack) := D5.cell 5
         have z6 : w2.cell? ⟨w.heap.size + 1, 6, none⟩ = some (.int .i64 x.id) := D5.cell 6
         have D9 := hid h2; have D4 := hid D4; have D6 := hid D6; have DT := hid DT; have G2 := hid g2
         clear g2 h2)
      | (refine wpList_load_blk rfl 38 _ rfl w.heap.size #[.string ⟨#[]⟩, .int .i64 0, .int .i64 0, .int .i64 0, .int .i64 0, .slice none 0 0, .slice none 0 0, .slice none 0 0] rfl D4.out Tryz.underlying38 rfl (by kernel_rfl) ?_))
    refine (RC.out _).mono ?_
    rintro e w3 ⟨a, nn, c, qs, rfl, hnq, hq, hb3⟩
    have r3 := hid hb3
    have RQ := hid hq
    replace hnq := hid hnq
    replace D4 := hid (D4.out.below hb3)
    replace D6 := hid (D6.out.below hb3)
    replace D9 := hid (D9.out.below hb3)
    replace DT := hid (DT.out.below hb3)
    clear hb3 hq
    go_wp2_with (first
      | (refine wpList_store_blk rfl 38 38 _ _ rfl 8 (fun w => by kernel_rfl) w.heap.size _ #[.string ⟨#[]⟩, .int .i64 0, .int .i64 0, .int .i64 0, .int .i64 0, .slice none 0 0, .slice none 0 0, .slice none 0 0] rfl rfl D4.out rfl rfl (by simp [Value.oneCell']) fun w4 h4 g4 => ?_
         have E6 := hid (D6.out.wrote g4 (by simp <;> omega))
         have E9 := hid (D9.out.wrote g4 (by simp; omega))
         have ET := hid (DT.out.wrote g4 (by simp <;> omega))
         have E4 := hid h4
         have G4 := hid g4
         clear h4 g4)
      | (refine wpList_store_blk rfl 53 53 _ _ rfl 2 (fun w => by kernel_rfl) (w.heap.size + 1 + 1 + 1 + 1) _ #[.slice a nn c, .slice none 0 0] rfl rfl ET.out rfl rfl (by simp [Value.oneCell']) fun w5 h5 g5 => ?_
         have F4 := hid (E4.out.wrote g5 (by simp; omega))
         have F6 := hid (E6.out.wrote g5 (by simp))
         have F9 := hid (E9.out.wrote g5 (by simp))
         have FT := hid h5
         have G5 := hid g5
         clear h5 g5))
    have SD := hid fun (X : World) (e1 : X.ownsRow 0 81 24 (.slice ap np cp) np (ps.flatMap PackV.cells)) (e2 : X.ownsRow 0 115 10 (.slice ac nc cc) nc (cs.flatMap ChangeV.cells)) (e3 : X.ownsRow 0 81 24 (.slice a nn c) nn (qs.flatMap PackV.cells)) => by
      have h0 := r_SameDid ps qs cs [] ap ac a none cp cc c 0 X (by rw [hnp.out]; exact e1) (by rw [hnc.out]; exact e2) (by rw [← hnq.out]; exact e3) (World.ownsRow_nil _ _ _ _) (fun h => List.eq_nil_of_length_eq_zero h) hbps.out hbcs.out
      rw [hnp.out, hnc.out, ← hnq.out] at h0
      exact h0
    have hw5 := hid (show Wrote [w.heap.size, w.heap.size + 1 + 1 + 1, w.heap.size + 1 + 1 + 1 + 1] w1 w5 from (((G2.out.sub (by simp)).trans (Wrote.of_below r3.out)).trans (G4.out.sub (by simp))).trans (G5.out.sub (by simp)))
    have hn1 : ∀ i, i ∈ [w.heap.size, w.heap.size + 1 + 1 + 1, w.heap.size + 1 + 1 + 1 + 1] → i < W.heap.size := by simp; omega
    have rp := (ownsRow_mono (base' := 0) (not_own D.out.packs hw5.out (fun i hi hb => by have := (D.out.packs.lt i (mem_blk.1 hb)).1; have := hn1 i hi; omega)) (Nat.zero_le _))
    rw [hnp.out] at rp
    have RP := hid rp
    have rc := (not_own D.out.chgs hw5.out (fun i hi hb => by have := (D.out.chgs.lt i (mem_blk.1 hb)).1; have := hn1 i hi; omega))
    rw [hnc.out] at rc
    have RC0 := hid rc
    clear rp rc
    have w2s : w.heap.size + 1 + 1 + 1 + 1 < w2.heap.size := by have := D.out.stp.size; have := G2.out.size; omega
    have RQ5 := hid (ownsRow_mono (base' := 0) (not_own (not_own RQ.out G4.out (fun i hi hb => by have := (RQ.out.lt i (mem_blk.1 hb)).1; simp at hi; omega)) G5.out (fun i hi hb => by
      have := ((not_own RQ.out G4.out (fun i hi hb => by have := (RQ.out.lt i (mem_blk.1 hb)).1; simp at hi; omega)).lt i (mem_blk.1 hb)).1; simp at hi; omega)) (Nat.zero_le _))
    clear hn1
    refine regionQ [(1000, fun w' => Blk w' w.heap.size #[.string ⟨#[]⟩, .int .i64 0, .int .i64 0, .int .i64 0, .int .i64 0, .slice none 0 0, .slice none 0 0, .slice none 0 0] 38), (1000, fun w' => Blk w' (w.heap.size + 1 + 1 + 1) #[.slice ap np cp, .slice ac nc cc] 53), (1000, fun w' => Blk w' (w.heap.size + 1 + 1 + 1 + 1) #[.slice a nn c, .slice none 0 0] 53)] (by kernel_rfl) ⟨F4.out, F9.out, FT.out, trivial⟩ fun KQ hKQ => ?_
    refine loadQ 0 rfl (by kernel_rfl) (by kernel_rfl) rfl rfl 0 rfl (by kernel_rfl) _ (fun w' hf => run_load_blk hf 38 Tryz.underlying38 rfl (by kernel_rfl)) ?_
    simp only [Act.put, List.getElem_toArray, List.getElem_cons_zero, List.getElem_cons_succ, List.setIfInBounds_toArray, List.set_cons_zero, List.set_cons_succ]
    refine takeQ 1 rfl (by kernel_rfl) rfl (by kernel_rfl) fun K hK => ?_
    simp only [List.getElem_toArray, List.getElem_cons_zero, List.getElem_cons_succ]
    go_big_quiet_op
    refine hK _ ?_
    clear hK K
    refine loadQ 2 rfl (by kernel_rfl) (by kernel_rfl) rfl rfl 1 rfl (by kernel_rfl) _ (fun w' hf => by (have k1 := hf.cell 1; simp at k1; go_simp <;> with_reducible rfl)) ?_
    simp only [Act.put, List.getElem_toArray, List.getElem_cons_zero, List.getElem_cons_succ, List.setIfInBounds_toArray, List.set_cons_zero, List.set_cons_succ]
    refine takeQ 3 rfl (by kernel_rfl) rfl (by kernel_rfl) fun K hK => ?_
    simp only [List.getElem_toArray, List.getElem_cons_zero, List.getElem_cons_succ]
    go_big_quiet_op
    refine hK _ ?_
    clear hK K
    refine takeQ 4 rfl (by kernel_rfl) rfl (by kernel_rfl) fun K hK => ?_
    simp only [List.getElem_toArray, List.getElem_cons_zero, List.getElem_cons_succ]
    go_big_quiet_op
    refine hK _ ?_
    clear hK K
    refine takeQ 5 rfl (by kernel_rfl) rfl (by kernel_rfl) fun K hK => ?_
    simp only [List.getElem_toArray, List.getElem_cons_zero, List.getElem_cons_succ]
    go_big_quiet_op
    refine hK _ ?_
    clear hK K
    refine takeQ 6 rfl (by kernel_rfl) rfl (by kernel_rfl) fun K hK => ?_
    simp only [List.getElem_toArray, List.getElem_cons_zero, List.getElem_cons_succ]
    go_big_quiet_op
    refine hK _ ?_
    clear hK K
    refine loadQ 7 rfl (by kernel_rfl) (by kernel_rfl) rfl rfl 1 rfl (by kernel_rfl) _ (fun w' hf => run_load_blk hf 53 Tryz.underlying53 rfl (by kernel_rfl)) ?_
    simp only [Act.put, List.getElem_toArray, List.getElem_cons_zero, List.getElem_cons_succ, List.setIfInBounds_toArray, List.set_cons_zero, List.set_cons_succ]
    refine loadQ 8 rfl (by kernel_rfl) (by kernel_rfl) rfl rfl 2 rfl (by kernel_rfl) _ (fun w' hf => run_load_blk hf 53 Tryz.underlying53 rfl (by kernel_rfl)) ?_
    simp only [Act.put, List.getElem_toArray, List.getElem_cons_zero, List.getElem_cons_succ, List.setIfInBounds_toArray, List.set_cons_zero, List.set_cons_succ]
    refine stepQ 9 rfl (by kernel_rfl) (by decide) (by kernel_rfl) fun K hK => ?_
    simp only [List.getElem_toArray, List.getElem_cons_zero, List.getElem_cons_succ]
    go_simp
    refine (SD.out _ RP.out.drew (ownsRow_mono (base' := 0) RC0.out (Nat.zero_le _)).drew RQ5.out.drew).mono ?_
    rintro e w6 ⟨⟨bb, rfl, -⟩, hb6⟩
    have I4 := F4.out.drew.below hb6
    have I6 := F6.out.drew.below hb6
    have I9 := F9.out.drew.below hb6
    have IT := FT.out.drew.below hb6
    have IC := ownsRow_below RC0.out.drew hb6
    have hb6 := (Below.refl w5.heap.size w5).drew.trans hb6
    refine hK _ _ ⟨⟨fun _ => I4, fun _ => I9, fun _ => IT, trivial⟩, ?_⟩
    clear hK K
    try simp only [Act.put, List.getElem_toArray, List.getElem_cons_zero, List.getElem_cons_succ, List.setIfInBounds_toArray, List.set_cons_zero, List.set_cons_succ]
    refine takeQ 10 rfl (by kernel_rfl) rfl (by kernel_rfl) fun K hK => ?_
    simp only [List.getElem_toArray, List.getElem_cons_zero, List.getElem_cons_succ]
    go_big_quiet_op
    refine hK _ ?_
    clear hK K
    refine stepQ 11 rfl (by kernel_rfl) (by decide) (by kernel_rfl) fun K hK => ?_
    simp only [List.getElem_toArray, List.getElem_cons_zero, List.getElem_cons_succ]
    refine wp_store_whole 38 38 _ _ rfl 8 (fun w => by kernel_rfl) (w.heap.size + 1 + 1) _ #[.string ⟨#[]⟩, .int .i64 0, .int .i64 0, .int .i64 0, .int .i64 0, .slice none 0 0, .slice none 0 0, .slice none 0 0] rfl rfl I6 rfl rfl (by simp [Value.oneCell']) fun w7 h7 g7 => ?_
    have hw7 : Wrote [w.heap.size, w.heap.size + 1 + 1 + 1, w.heap.size + 1 + 1 + 1 + 1, w.heap.size + 1 + 1] w1 w7 := ((hw5.out.sub (by simp)).trans (Wrote.of_below hb6)).trans (g7.sub (by simp))
    have J4 := I4.wrote g7 (by simp <;> omega)
    have J9 := I9.wrote g7 (by simp <;> omega)
    have JT := IT.wrote g7 (by simp <;> omega)
    have JC := not_own IC g7 (fun i hi hb => by have := (IC.lt i (mem_blk.1 hb)).1; simp at hi; omega)
    refine hK _ _ ⟨⟨fun _ => J4, fun _ => J9, fun _ => JT, trivial⟩, ?_⟩
    clear hK K
    try simp only [Act.put, List.getElem_toArray, List.getElem_cons_zero, List.getElem_cons_succ, List.setIfInBounds_toArray, List.set_cons_zero, List.set_cons_succ]
    refine takeQ 12 rfl (by kernel_rfl) rfl (by kernel_rfl) fun K hK => ?_
    simp only [List.getElem_toArray, List.getElem_cons_zero, List.getElem_cons_succ]
    go_big_quiet_op
    refine hK _ ?_
    clear hK K
    refine takeQ 13 rfl (by kernel_rfl) rfl (by kernel_rfl) fun K hK => ?_
    simp only [List.getElem_toArray, List.getElem_cons_zero, List.getElem_cons_succ]
    go_big_quiet_op
    refine hK _ ?_
    clear hK K
    refine doneQ (by kernel_rfl) (hKQ.out _ _ ?_)
    clear hKQ KQ
    go_wp2
    change bodyPost Tryz.prog Tryz.f11 _ _ _ _
    refine bodyPost_ret (v := .tuple #[.agg #[.string ⟨#[]⟩, .int .i64 0, .int .i64 0, .int .i64 0, .int .i64 0, .slice none 0 0, .slice none 0 0, .slice none 0 0], .slice ac nc cc, .bool bb]) ?_ rfl ⟨ac, nc, cc, bb, L1, rfl, ?_, D.out.nil, D.out.p, ?_, by rw [hcs.out, hnc.out], ?_⟩
    · exact results_ctt Tryz.results11 rfl (run_loadVar_blk (P := Tryz.prog) h7 38 Tryz.underlying38 rfl (by kernel_rfl)) rfl rfl
    · refine ob_rebase2 (D.out.ob.out hw7 (fun i hi => hf.out i ?_ ?_) ?_) D.out.nil
      · simp at hi; omega
      · simp at hi; omega
      · have := h.out.tz.lt; simp; omega
    · exact ((Stp.below BB.out).trans D.out.stp).fresh hw7 (fun i hi => by simp at hi; omega)
    · rw [hcs.out]
      exact ownsRow_mono JC (by have := BB.out.size; omega)
  by_cases h3 : x.kind = 3
  · have hs : s.does x = s.doHear x.pack x.id := by unfold OS.does; rw [if_neg h1, if_neg h2, if_pos h3]
    rw [hs]
    clear hs
    go_enter Tryz.func11, Tryz.ntmps11
    go_upto_region 3 with (fail)
    obtain ⟨W, hW⟩ : ∃ W, W = (((((w.alloc (.cells zA 38)).alloc (.cells x.cells 43)).alloc (.cells zA 38)).alloc (.cells #[.slice none 0 0, .slice none 0 0] 53)).alloc (.cells #[.slice none 0 0, .slice none 0 0] 53)) := ⟨_, rfl⟩
    have B4 : Blk W w.heap.size zA 38 := by rw [hW]; exact ((((Blk.new w _ _).alloc _).alloc _).alloc _).alloc _
    have B5 : Blk W (w.heap.size + 1) x.cells 43 := by rw [hW]; exact (((Blk.new_at _ _ _ _ (by simp)).alloc _).alloc _).alloc _
    have B6 : Blk W (w.heap.size + 1 + 1) zA 38 := by rw [hW]; exact ((Blk.new_at _ _ _ _ (by simp)).alloc _).alloc _
    have B9 : Blk W (w.heap.size + 1 + 1 + 1) #[.slice none 0 0, .slice none 0 0] 53 := by rw [hW]; exact (Blk.new_at _ _ _ _ (by simp)).alloc _
    have BT : Blk W (w.heap.size + 1 + 1 + 1 + 1) #[.slice none 0 0, .slice none 0 0] 53 := by rw [hW]; exact Blk.new_at _ _ _ _ (by simp)
    have BB : Below w.heap.size w W := by
      rw [hW]
      repeat (first | exact Below.refl _ _ | (refine Below.setCell ?_ (by simp <;> omega) _) | (refine Below.alloc ?_ (by simp <;> omega) _) | refine Below.drew ?_)
    refine wp_world hW.symm ?_
    clear hW
    have x0 : W.cell? ⟨w.heap.size + 1, 0, none⟩ = some (.int .i64 x.kind) := B5.cell 0
    have x1 : W.cell? ⟨w.heap.size + 1, 1, none⟩ = some (.int .i64 x.qos) := B5.cell 1
    have x2 : W.cell? ⟨w.heap.size + 1, 2, none⟩ = some (.string ⟨x.topic.toArray⟩) := B5.cell 2
    have x3 : W.cell? ⟨w.heap.size + 1, 3, none⟩ = some (.string ⟨x.body.toArray⟩) := B5.cell 3
    have x4 : W.cell? ⟨w.heap.size + 1, 4, none⟩ = some (.bool x.retain) := B5.cell 4
    have x5 : W.cell? ⟨w.heap.size + 1, 5, none⟩ = some (.int .i64 x.pack) := B5.cell 5
    have x6 : W.cell? ⟨w.heap.size + 1, 6, none⟩ = some (.int .i64 x.id) := B5.cell 6
    rw [h3] at x0
    have OC := hid (act_Hear (h.out.below BB) hn.out x.pack x.id)
    have RC := hid (ref_Hear x.pack x.id)
    have BB := hid BB; have B4 := hid B4; have B5 := hid B5; have B6 := hid B6; have B9 := hid B9; have BT := hid BT
    have hbl := doHear_len s x.pack x.id (by have := h.out.ok.room; omega)
    have hbps := hid hbl.1
    have hbcs := hid hbl.2
    clear hbl
    go_wp2_with fail
    refine OC.out.mono ?_
    rintro e w1 ⟨_, _, no, L1, rfl, d⟩
    obtain ⟨ap, cp, rfl⟩ := own_slice d.packs
    obtain ⟨ac, cc, rfl⟩ := own_slice d.chgs
    generalize hps : SS.ps _ = ps at *
    generalize hcs : SS.cs _ = cs at *
    have hcs := hid hcs
    have hps := hid hps
    have hf : ∀ i, w.heap.size ≤ i → i < W.heap.size → i ∉ L1.foot := fun i h1 h2 => d.stp.not (fun hx => by have := h.out.lt _ hx; omega) h2
    have hf0 : ∀ i, w.heap.size ≤ i → i ∉ L.foot := fun i h1 hx => by have := h.out.lt _ hx; omega
    have s0 := B4.out.lt; have s2 := B6.out.lt; have s3 := B9.out.lt; have s4 := BT.out.lt; have s5 := B5.out.lt
    have C4 := B4.out.wrote d.stp.wrote (hf0 _ (by omega))
    have C5 := B5.out.wrote d.stp.wrote (hf0 _ (by omega))
    have C6 := B6.out.wrote d.stp.wrote (hf0 _ (by omega))
    have C9 := B9.out.wrote d.stp.wrote (hf0 _ (by omega))
    have CT := BT.out.wrote d.stp.wrote (hf0 _ (by omega))
    obtain ⟨nc, hnc⟩ : ∃ nc, cs.length = nc := ⟨_, rfl⟩
    obtain ⟨np, hnp⟩ : ∃ np, ps.length = np := ⟨_, rfl⟩
    have D := hid d
    have hf := hid hf
    clear d hf0
    rw [hnc, hnp]
    replace hnc := hid hnc
    replace hnp := hid hnp
    have y2 : w1.cell? ⟨w.heap.size + 1, 2, none⟩ = some (.string ⟨x.topic.toArray⟩) := C5.cell 2
    have y3 : w1.cell? ⟨w.heap.size + 1, 3, none⟩ = some (.string ⟨x.body.toArray⟩) := C5.cell 3
    have y1 : w1.cell? ⟨w.heap.size + 1, 1, none⟩ = some (.int .i64 x.qos) := C5.cell 1
    have y4 : w1.cell? ⟨w.heap.size + 1, 4, none⟩ = some (.bool x.retain) := C5.cell 4
    have y5 : w1.cell? ⟨w.heap.size + 1, 5, none⟩ = some (.int .i64 x.pack) := C5.cell 5
    have y6 : w1.cell? ⟨w.heap.size + 1, 6, none⟩ = some (.int .i64 x.id) := C5.cell 6
    have C4 := hid C4; have C5 := hid C5; have C6 := hid C6; have C9 := hid C9; have CT := hid CT
    go_wp2_with (first
      | (refine wpList_store_blk rfl 53 53 _ _ rfl 2 (fun w => by kernel_rfl) (w.heap.size + 1 + 1 + 1) _ #[.slice ap np cp, .slice ac nc cc] rfl rfl C9.out rfl rfl (by simp [Value.oneCell']) fun w2 h2 g2 => ?_
         have D4 := C4.out.wrote g2 (by simp; omega)
         have D5 := C5.out.wrote g2 (by simp)
         have D6 := C6.out.wrote g2 (by simp)
         have DT := CT.out.wrote g2 (by simp)
         have z2 : w2.cell? ⟨w.heap.size + 1, 2, none⟩ = some (.string ⟨x.topic.toArray⟩) := D5.cell 2
         have z3 : w2.cell? ⟨w.heap.size + 1, 3, none⟩ = some (.string ⟨x.body.toArray⟩) := D5.cell 3
         have z1 : w2.cell? ⟨w.heap.size + 1, 1, none⟩ = some (.int .i64 x.qos) := D5.cell 1
         have z4 : w2.cell? ⟨w.heap.size + 1, 4, none⟩ = some (.bool x.retain) := D5.cell 4
         have z5 : w2.cell? ⟨w.heap.size + 1, 5, none⟩ = some (.int .i64 x.pack) := D5.cell 5
         have z6 : w2.cell? ⟨w.heap.size + 1, 6, none⟩ = some (.int .i64 x.id) := D5.cell 6
         have D9 := hid h2; have D4 := hid D4; have D6 := hid D6; have DT := hid DT; have G2 := hid g2
         clear g2 h2)
      | (refine wpList_load_blk rfl 38 _ rfl w.heap.size #[.string ⟨#[]⟩, .int .i64 0, .int .i64 0, .int .i64 0, .int .i64 0, .slice none 0 0, .slice none 0 0, .slice none 0 0] rfl D4.out Tryz.underlying38 rfl (by kernel_rfl) ?_))
    refine (RC.out _).mono ?_
    rintro e w3 ⟨a, nn, c, no2, qs, rfl, hnq, hq, hb3⟩
    have r3 := hid hb3
    have RQ := hid hq
    replace hnq := hid hnq
    replace D4 := hid (D4.out.below hb3)
    replace D6 := hid (D6.out.below hb3)
    replace D9 := hid (D9.out.below hb3)
    replace DT := hid (DT.out.below hb3)
    clear hb3 hq
    go_wp2_with (first
      | (refine wpList_store_blk rfl 38 38 _ _ rfl 8 (fun w => by kernel_rfl) w.heap.size _ #[.string ⟨#[]⟩, .int .i64 0, .int .i64 0, .int .i64 0, .int .i64 0, .slice none 0 0, .slice none 0 0, .slice none 0 0] rfl rfl D4.out rfl rfl (by simp [Value.oneCell']) fun w4 h4 g4 => ?_
         have E6 := hid (D6.out.wrote g4 (by simp <;> omega))
         have E9 := hid (D9.out.wrote g4 (by simp; omega))
         have ET := hid (DT.out.wrote g4 (by simp <;> omega))
         have E4 := hid h4
         have G4 := hid g4
         clear h4 g4)
      | (refine wpList_store_blk rfl 53 53 _ _ rfl 2 (fun w => by kernel_rfl) (w.heap.size + 1 + 1 + 1 + 1) _ #[.slice a nn c, .slice none 0 0] rfl rfl ET.out rfl rfl (by simp [Value.oneCell']) fun w5 h5 g5 => ?_
         have F4 := hid (E4.out.wrote g5 (by simp; omega))
         have F6 := hid (E6.out.wrote g5 (by simp))
         have F9 := hid (E9.out.wrote g5 (by simp))
         have FT := hid h5
         have G5 := hid g5
         clear h5 g5))
    by_cases hno : no = no2
    · subst hno
      have SD := hid fun (X : World) (e1 : X.ownsRow 0 81 24 (.slice ap np cp) np (ps.flatMap PackV.cells)) (e2 : X.ownsRow 0 115 10 (.slice ac nc cc) nc (cs.flatMap ChangeV.cells)) (e3 : X.ownsRow 0 81 24 (.slice a nn c) nn (qs.flatMap PackV.cells)) => by
        have h0 := r_SameDid ps qs cs [] ap ac a none cp cc c 0 X (by rw [hnp.out]; exact e1) (by rw [hnc.out]; exact e2) (by rw [← hnq.out]; exact e3) (World.ownsRow_nil _ _ _ _) (fun h => List.eq_nil_of_length_eq_zero h) hbps.out hbcs.out
        rw [hnp.out, hnc.out, ← hnq.out] at h0
        exact h0
      have hw5 := hid (show Wrote [w.heap.size, w.heap.size + 1 + 1 + 1, w.heap.size + 1 + 1 + 1 + 1] w1 w5 from (((G2.out.sub (by simp)).trans (Wrote.of_below r3.out)).trans (G4.out.sub (by simp))).trans (G5.out.sub (by simp)))
      have hn1 : ∀ i, i ∈ [w.heap.size, w.heap.size + 1 + 1 + 1, w.heap.size + 1 + 1 + 1 + 1] → i < W.heap.size := by simp; omega
      have rp := (ownsRow_mono (base' := 0) (not_own D.out.packs hw5.out (fun i hi hb => by have := (D.out.packs.lt i (mem_blk.1 hb)).1; have := hn1 i hi; omega)) (Nat.zero_le _))
      rw [hnp.out] at rp
      have RP := hid rp
      have rc := (not_own D.out.chgs hw5.out (fun i hi hb => by have := (D.out.chgs.lt i (mem_blk.1 hb)).1; have := hn1 i hi; omega))
      rw [hnc.out] at rc
      have RC0 := hid rc
      clear rp rc
      have w2s : w.heap.size + 1 + 1 + 1 + 1 < w2.heap.size := by have := D.out.stp.size; have := G2.out.size; omega
      have RQ5 := hid (ownsRow_mono (base' := 0) (not_own (not_own RQ.out G4.out (fun i hi hb => by have := (RQ.out.lt i (mem_blk.1 hb)).1; simp at hi; omega)) G5.out (fun i hi hb => by
        have := ((not_own RQ.out G4.out (fun i hi hb => by have := (RQ.out.lt i (mem_blk.1 hb)).1; simp at hi; omega)).lt i (mem_blk.1 hb)).1; simp at hi; omega)) (Nat.zero_le _))
      clear hn1
      refine regionQ [(1000, fun w' => Blk w' w.heap.size #[.string ⟨#[]⟩, .int .i64 0, .int .i64 0, .int .i64 0, .int .i64 0, .slice none 0 0, .slice none 0 0, .slice none 0 0] 38), (1000, fun w' => Blk w' (w.heap.size + 1 + 1 + 1) #[.slice ap np cp, .slice ac nc cc] 53), (1000, fun w' => Blk w' (w.heap.size + 1 + 1 + 1 + 1) #[.slice a nn c, .slice none 0 0] 53)] (by kernel_rfl) ⟨F4.out, F9.out, FT.out, trivial⟩ fun KQ hKQ => ?_
      refine loadQ 0 rfl (by kernel_rfl) (by kernel_rfl) rfl rfl 0 rfl (by kernel_rfl) _ (fun w' hf => run_load_blk hf 38 Tryz.underlying38 rfl (by kernel_rfl)) ?_
      simp only [Act.put, List.getElem_toArray, List.getElem_cons_zero, List.getElem_cons_succ, List.setIfInBounds_toArray, List.set_cons_zero, List.set_cons_succ]
      refine takeQ 1 rfl (by kernel_rfl) rfl (by kernel_rfl) fun K hK => ?_
      simp only [List.getElem_toArray, List.getElem_cons_zero, List.getElem_cons_succ]
      go_big_quiet_op
      refine hK _ ?_
      clear hK K
      refine loadQ 2 rfl (by kernel_rfl) (by kernel_rfl) rfl rfl 1 rfl (by kernel_rfl) _ (fun w' hf => by (have k1 := hf.cell 1; simp at k1; go_simp <;> with_reducible rfl)) ?_
      simp only [Act.put, List.getElem_toArray, List.getElem_cons_zero, List.getElem_cons_succ, List.setIfInBounds_toArray, List.set_cons_zero, List.set_cons_succ]
      refine takeQ 3 rfl (by kernel_rfl) rfl (by kernel_rfl) fun K hK => ?_
      simp only [List.getElem_toArray, List.getElem_cons_zero, List.getElem_cons_succ]
      go_big_quiet_op
      refine hK _ ?_
      clear hK K
      refine takeQ 4 rfl (by kernel_rfl) rfl (by kernel_rfl) fun K hK => ?_
      simp only [List.getElem_toArray, List.getElem_cons_zero, List.getElem_cons_succ]
      go_big_quiet_op
      refine hK _ ?_
      clear hK K
      refine takeQ 5 rfl (by kernel_rfl) rfl (by kernel_rfl) fun K hK => ?_
      simp only [List.getElem_toArray, List.getElem_cons_zero, List.getElem_cons_succ]
      go_big_quiet_op
      refine hK _ ?_
      clear hK K
      refine takeQ 6 rfl (by kernel_rfl) rfl (by kernel_rfl) fun K hK => ?_
      simp only [List.getElem_toArray, List.getElem_cons_zero, List.getElem_cons_succ]
      go_big_quiet_op
      refine hK _ ?_
      clear hK K
      refine loadQ 7 rfl (by kernel_rfl) (by kernel_rfl) rfl rfl 1 rfl (by kernel_rfl) _ (fun w' hf => run_load_blk hf 53 Tryz.underlying53 rfl (by kernel_rfl)) ?_
      simp only [Act.put, List.getElem_toArray, List.getElem_cons_zero, List.getElem_cons_succ, List.setIfInBounds_toArray, List.set_cons_zero, List.set_cons_succ]
      refine loadQ 8 rfl (by kernel_rfl) (by kernel_rfl) rfl rfl 2 rfl (by kernel_rfl) _ (fun w' hf => run_load_blk hf 53 Tryz.underlying53 rfl (by kernel_rfl)) ?_
      simp only [Act.put, List.getElem_toArray, List.getElem_cons_zero, List.getElem_cons_succ, List.setIfInBounds_toArray, List.set_cons_zero, List.set_cons_succ]
      refine stepQ 9 rfl (by kernel_rfl) (by decide) (by kernel_rfl) fun K hK => ?_
      simp only [List.getElem_toArray, List.getElem_cons_zero, List.getElem_cons_succ]
      go_simp
      refine (SD.out _ RP.out.drew (ownsRow_mono (base' := 0) RC0.out (Nat.zero_le _)).drew RQ5.out.drew).mono ?_
      rintro e w6 ⟨⟨bb, rfl, -⟩, hb6⟩
      have I4 := F4.out.drew.below hb6
      have I6 := F6.out.drew.below hb6
      have I9 := F9.out.drew.below hb6
      have IT := FT.out.drew.below hb6
      have IC := ownsRow_below RC0.out.drew hb6
      have hb6 := (Below.refl w5.heap.size w5).drew.trans hb6
      refine hK _ _ ⟨⟨fun _ => I4, fun _ => I9, fun _ => IT, trivial⟩, ?_⟩
      clear hK K
      try simp only [Act.put, List.getElem_toArray, List.getElem_cons_zero, List.getElem_cons_succ, List.setIfInBounds_toArray, List.set_cons_zero, List.set_cons_succ]
      refine takeQ 10 rfl (by kernel_rfl) rfl (by kernel_rfl) fun K hK => ?_
      simp only [List.getElem_toArray, List.getElem_cons_zero, List.getElem_cons_succ]
      go_big_quiet_op
      refine hK _ ?_
      clear hK K
      refine stepQ 11 rfl (by kernel_rfl) (by decide) (by kernel_rfl) fun K hK => ?_
      simp only [List.getElem_toArray, List.getElem_cons_zero, List.getElem_cons_succ]
      refine wp_store_whole 38 38 _ _ rfl 8 (fun w => by kernel_rfl) (w.heap.size + 1 + 1) _ #[.string ⟨#[]⟩, .int .i64 0, .int .i64 0, .int .i64 0, .int .i64 0, .slice none 0 0, .slice none 0 0, .slice none 0 0] rfl rfl I6 rfl rfl (by simp [Value.oneCell']) fun w7 h7 g7 => ?_
      have hw7 : Wrote [w.heap.size, w.heap.size + 1 + 1 + 1, w.heap.size + 1 + 1 + 1 + 1, w.heap.size + 1 + 1] w1 w7 := ((hw5.out.sub (by simp)).trans (Wrote.of_below hb6)).trans (g7.sub (by simp))
      have J4 := I4.wrote g7 (by simp <;> omega)
      have J9 := I9.wrote g7 (by simp <;> omega)
      have JT := IT.wrote g7 (by simp <;> omega)
      have JC := not_own IC g7 (fun i hi hb => by have := (IC.lt i (mem_blk.1 hb)).1; simp at hi; omega)
      refine hK _ _ ⟨⟨fun _ => J4, fun _ => J9, fun _ => JT, trivial⟩, ?_⟩
      clear hK K
      try simp only [Act.put, List.getElem_toArray, List.getElem_cons_zero, List.getElem_cons_succ, List.setIfInBounds_toArray, List.set_cons_zero, List.set_cons_succ]
      refine takeQ 12 rfl (by kernel_rfl) rfl (by kernel_rfl) fun K hK => ?_
      simp only [List.getElem_toArray, List.getElem_cons_zero, List.getElem_cons_succ]
      go_big_quiet_op
      refine hK _ ?_
      clear hK K
      refine takeQ 13 rfl (by kernel_rfl) rfl (by kernel_rfl) fun K hK => ?_
      simp only [List.getElem_toArray, List.getElem_cons_zero, List.getElem_cons_succ]
      go_big_quiet_op
      refine hK _ ?_
      clear hK K
      refine doneQ (by kernel_rfl) (hKQ.out _ _ ?_)
      clear hKQ KQ
      go_wp2
      change bodyPost Tryz.prog Tryz.f11 _ _ _ _
      refine bodyPost_ret (v := .tuple #[.agg #[.string ⟨#[]⟩, .int .i64 0, .int .i64 0, .int .i64 0, .int .i64 0, .slice none 0 0, .slice none 0 0, .slice none 0 0], .slice ac nc cc, .bool bb]) ?_ rfl ⟨ac, nc, cc, bb, L1, rfl, ?_, D.out.nil, D.out.p, ?_, by rw [hcs.out, hnc.out], ?_⟩
      · exact results_ctt Tryz.results11 rfl (run_loadVar_blk (P := Tryz.prog) h7 38 Tryz.underlying38 rfl (by kernel_rfl)) rfl rfl
      · refine ob_rebase2 (D.out.ob.out hw7 (fun i hi => hf.out i ?_ ?_) ?_) D.out.nil
        · simp at hi; omega
        · simp at hi; omega
        · have := h.out.tz.lt; simp; omega
      · exact ((Stp.below BB.out).trans D.out.stp).fresh hw7 (fun i hi => by simp at hi; omega)
      · rw [hcs.out]
        exact ownsRow_mono JC (by have := BB.out.size; omega)
    · have dno : (no == no2) = false := by simpa using hno
      have SD := hid fun (X : World) (e1 : X.ownsRow 0 81 24 (.slice ap np cp) np (ps.flatMap PackV.cells)) (e2 : X.ownsRow 0 115 10 (.slice ac nc cc) nc (cs.flatMap ChangeV.cells)) (e3 : X.ownsRow 0 81 24 (.slice a nn c) nn (qs.flatMap PackV.cells)) => by
        have h0 := r_SameDid ps qs cs [] ap ac a none cp cc c 0 X (by rw [hnp.out]; exact e1) (by rw [hnc.out]; exact e2) (by rw [← hnq.out]; exact e3) (World.ownsRow_nil _ _ _ _) (fun h => List.eq_nil_of_length_eq_zero h) hbps.out hbcs.out
        rw [hnp.out, hnc.out, ← hnq.out] at h0
        exact h0
      have hw5 := hid (show Wrote [w.heap.size, w.heap.size + 1 + 1 + 1, w.heap.size + 1 + 1 + 1 + 1] w1 w5 from (((G2.out.sub (by simp)).trans (Wrote.of_below r3.out)).trans (G4.out.sub (by simp))).trans (G5.out.sub (by simp)))
      have hn1 : ∀ i, i ∈ [w.heap.size, w.heap.size + 1 + 1 + 1, w.heap.size + 1 + 1 + 1 + 1] → i < W.heap.size := by simp; omega
      have rp := (ownsRow_mono (base' := 0) (not_own D.out.packs hw5.out (fun i hi hb => by have := (D.out.packs.lt i (mem_blk.1 hb)).1; have := hn1 i hi; omega)) (Nat.zero_le _))
      rw [hnp.out] at rp
      have RP := hid rp
      have rc := (not_own D.out.chgs hw5.out (fun i hi hb => by have := (D.out.chgs.lt i (mem_blk.1 hb)).1; have := hn1 i hi; omega))
      rw [hnc.out] at rc
      have RC0 := hid rc
      clear rp rc
      have w2s : w.heap.size + 1 + 1 + 1 + 1 < w2.heap.size := by have := D.out.stp.size; have := G2.out.size; omega
      have RQ5 := hid (ownsRow_mono (base' := 0) (not_own (not_own RQ.out G4.out (fun i hi hb => by have := (RQ.out.lt i (mem_blk.1 hb)).1; simp at hi; omega)) G5.out (fun i hi hb => by
        have := ((not_own RQ.out G4.out (fun i hi hb => by have := (RQ.out.lt i (mem_blk.1 hb)).1; simp at hi; omega)).lt i (mem_blk.1 hb)).1; simp at hi; omega)) (Nat.zero_le _))
      clear hn1
      refine regionQ [(1000, fun w' => Blk w' w.heap.size #[.string ⟨#[]⟩, .int .i64 0, .int .i64 0, .int .i64 0, .int .i64 0, .slice none 0 0, .slice none 0 0, .slice none 0 0] 38), (1000, fun w' => Blk w' (w.heap.size + 1 + 1 + 1) #[.slice ap np cp, .slice ac nc cc] 53), (1000, fun w' => Blk w' (w.heap.size + 1 + 1 + 1 + 1) #[.slice a nn c, .slice none 0 0] 53)] (by kernel_rfl) ⟨F4.out, F9.out, FT.out, trivial⟩ fun KQ hKQ => ?_
      refine loadQ 0 rfl (by kernel_rfl) (by kernel_rfl) rfl rfl 0 rfl (by kernel_rfl) _ (fun w' hf => run_load_blk hf 38 Tryz.underlying38 rfl (by kernel_rfl)) ?_
      simp only [Act.put, List.getElem_toArray, List.getElem_cons_zero, List.getElem_cons_succ, List.setIfInBounds_toArray, List.set_cons_zero, List.set_cons_succ]
      refine takeQ 1 rfl (by kernel_rfl) rfl (by kernel_rfl) fun K hK => ?_
      simp only [List.getElem_toArray, List.getElem_cons_zero, List.getElem_cons_succ]
      go_big_quiet_op
      refine hK _ ?_
      clear hK K
      refine loadQ 2 rfl (by kernel_rfl) (by kernel_rfl) rfl rfl 1 rfl (by kernel_rfl) _ (fun w' hf => by (have k1 := hf.cell 1; simp at k1; go_simp <;> with_reducible rfl)) ?_
      simp only [Act.put, List.getElem_toArray, List.getElem_cons_zero, List.getElem_cons_succ, List.setIfInBounds_toArray, List.set_cons_zero, List.set_cons_succ]
      refine takeQ 3 rfl (by kernel_rfl) rfl (by kernel_rfl) fun K hK => ?_
      simp only [List.getElem_toArray, List.getElem_cons_zero, List.getElem_cons_succ]
      go_big_quiet_op
      refine hK _ ?_
      clear hK K
      refine takeQ 4 rfl (by kernel_rfl) rfl (by kernel_rfl) fun K hK => ?_
      simp only [List.getElem_toArray, List.getElem_cons_zero, List.getElem_cons_succ]
      go_big_quiet_op
      refine hK _ ?_
      clear hK K
      refine takeQ 5 rfl (by kernel_rfl) rfl (by kernel_rfl) fun K hK => ?_
      simp only [List.getElem_toArray, List.getElem_cons_zero, List.getElem_cons_succ]
      go_big_quiet_op
      refine hK _ ?_
      clear hK K
      refine takeQ 6 rfl (by kernel_rfl) rfl (by kernel_rfl) fun K hK => ?_
      simp only [List.getElem_toArray, List.getElem_cons_zero, List.getElem_cons_succ]
      go_big_quiet_op
      refine hK _ ?_
      clear hK K
      refine skipQ 7 rfl (by kernel_rfl) (by kernel_rfl) ?_
      simp only [Act.put, List.getElem_toArray, List.getElem_cons_zero, List.getElem_cons_succ, List.setIfInBounds_toArray, List.set_cons_zero, List.set_cons_succ]
      refine skipQ 8 rfl (by kernel_rfl) (by kernel_rfl) ?_
      simp only [Act.put, List.getElem_toArray, List.getElem_cons_zero, List.getElem_cons_succ, List.setIfInBounds_toArray, List.set_cons_zero, List.set_cons_succ]
      refine skipQ 9 rfl (by kernel_rfl) (by kernel_rfl) ?_
      simp only [Act.put, List.getElem_toArray, List.getElem_cons_zero, List.getElem_cons_succ, List.setIfInBounds_toArray, List.set_cons_zero, List.set_cons_succ]
      refine takeQ 10 rfl (by kernel_rfl) rfl (by kernel_rfl) fun K hK => ?_
      simp only [List.getElem_toArray, List.getElem_cons_zero, List.getElem_cons_succ]
      go_big_quiet_op
      refine hK _ ?_
      clear hK K
      have I4 := F4.out.drew
      have I6 := F6.out.drew
      have I9 := F9.out.drew
      have IT := FT.out.drew
      have IC := RC0.out.drew
      have hb6 := (Below.refl w5.heap.size w5).drew
      refine stepQ 11 rfl (by kernel_rfl) (by decide) (by kernel_rfl) fun K hK => ?_
      simp only [List.getElem_toArray, List.getElem_cons_zero, List.getElem_cons_succ]
      refine wp_store_whole 38 38 _ _ rfl 8 (fun w => by kernel_rfl) (w.heap.size + 1 + 1) _ #[.string ⟨#[]⟩, .int .i64 0, .int .i64 0, .int .i64 0, .int .i64 0, .slice none 0 0, .slice none 0 0, .slice none 0 0] rfl rfl I6 rfl rfl (by simp [Value.oneCell']) fun w7 h7 g7 => ?_
      have hw7 : Wrote [w.heap.size, w.heap.size + 1 + 1 + 1, w.heap.size + 1 + 1 + 1 + 1, w.heap.size + 1 + 1] w1 w7 := ((hw5.out.sub (by simp)).trans (Wrote.of_below hb6)).trans (g7.sub (by simp))
      have J4 := I4.wrote g7 (by simp <;> omega)
      have J9 := I9.wrote g7 (by simp <;> omega)
      have JT := IT.wrote g7 (by simp <;> omega)
      have JC := not_own IC g7 (fun i hi hb => by have := (IC.lt i (mem_blk.1 hb)).1; simp at hi; omega)
      refine hK _ _ ⟨⟨fun _ => J4, fun _ => J9, fun _ => JT, trivial⟩, ?_⟩
      clear hK K
      try simp only [Act.put, List.getElem_toArray, List.getElem_cons_zero, List.getElem_cons_succ, List.setIfInBounds_toArray, List.set_cons_zero, List.set_cons_succ]
      refine takeQ 12 rfl (by kernel_rfl) rfl (by kernel_rfl) fun K hK => ?_
      simp only [List.getElem_toArray, List.getElem_cons_zero, List.getElem_cons_succ]
      go_big_quiet_op
      refine hK _ ?_
      clear hK K
      refine takeQ 13 rfl (by kernel_rfl) rfl (by kernel_rfl) fun K hK => ?_
      simp only [List.getElem_toArray, List.getElem_cons_zero, List.getElem_cons_succ]
      go_big_quiet_op
      refine hK _ ?_
      clear hK K
      refine doneQ (by kernel_rfl) (hKQ.out _ _ ?_)
      clear hKQ KQ
      go_wp2
      change bodyPost Tryz.prog Tryz.f11 _ _ _ _
      refine bodyPost_ret (v := .tuple #[.agg #[.string ⟨#[]⟩, .int .i64 0, .int .i64 0, .int .i64 0, .int .i64 0, .slice none 0 0, .slice none 0 0, .slice none 0 0], .slice ac nc cc, .bool false]) ?_ rfl ⟨ac, nc, cc, false, L1, rfl, ?_, D.out.nil, D.out.p, ?_, by rw [hcs.out, hnc.out], ?_⟩
      · exact results_ctt Tryz.results11 rfl (run_loadVar_blk (P := Tryz.prog) h7 38 Tryz.underlying38 rfl (by kernel_rfl)) rfl rfl
      · refine ob_rebase2 (D.out.ob.out hw7 (fun i hi => hf.out i ?_ ?_) ?_) D.out.nil
        · simp at hi; omega
        · simp at hi; omega
        · have := h.out.tz.lt; simp; omega
      · exact ((Stp.below BB.out).trans D.out.stp).fresh hw7 (fun i hi => by simp at hi; omega)
      · rw [hcs.out]
        exact ownsRow_mono JC (by have := BB.out.size; omega)
  by_cases h4 : x.kind = 4
  · have hs : s.does x = s.again.all.fin s.seq s.id := by unfold OS.does; rw [if_neg h1, if_neg h2, if_neg h3, if_pos h4]
    rw [hs]
    clear hs
    go_enter Tryz.func11, Tryz.ntmps11
    go_upto_region 3 with (fail)
    obtain ⟨W, hW⟩ : ∃ W, W = (((((w.alloc (.cells zA 38)).alloc (.cells x.cells 43)).alloc (.cells zA 38)).alloc (.cells #[.slice none 0 0, .slice none 0 0] 53)).alloc (.cells #[.slice none 0 0, .slice none 0 0] 53)) := ⟨_, rfl⟩
    have B4 : Blk W w.heap.size zA 38 := by rw [hW]; exact ((((Blk.new w _ _).alloc _).alloc _).alloc _).alloc _
    have B5 : Blk W (w.heap.size + 1) x.cells 43 := by rw [hW]; exact (((Blk.new_at _ _ _ _ (by simp)).alloc _).alloc _).alloc _
    have B6 : Blk W (w.heap.size + 1 + 1) zA 38 := by rw [hW]; exact ((Blk.new_at _ _ _ _ (by simp)).alloc _).alloc _
    have B9 : Blk W (w.heap.size + 1 + 1 + 1) #[.slice none 0 0, .slice none 0 0] 53 := by rw [hW]; exact (Blk.new_at _ _ _ _ (by simp)).alloc _
    have BT : Blk W (w.heap.size + 1 + 1 + 1 + 1) #[.slice none 0 0, .slice none 0 0] 53 := by rw [hW]; exact Blk.new_at _ _ _ _ (by simp)
    have BB : Below w.heap.size w W := by
      rw [hW]
      repeat (first | exact Below.refl _ _ | (refine Below.setCell ?_ (by simp <;> omega) _) | (refine Below.alloc ?_ (by simp <;> omega) _) | refine Below.drew ?_)
    refine wp_world hW.symm ?_
    clear hW
    have x0 : W.cell? ⟨w.heap.size + 1, 0, none⟩ = some (.int .i64 x.kind) := B5.cell 0
    have x1 : W.cell? ⟨w.heap.size + 1, 1, none⟩ = some (.int .i64 x.qos) := B5.cell 1
    have x2 : W.cell? ⟨w.heap.size + 1, 2, none⟩ = some (.string ⟨x.topic.toArray⟩) := B5.cell 2
    have x3 : W.cell? ⟨w.heap.size + 1, 3, none⟩ = some (.string ⟨x.body.toArray⟩) := B5.cell 3
    have x4 : W.cell? ⟨w.heap.size + 1, 4, none⟩ = some (.bool x.retain) := B5.cell 4
    have x5 : W.cell? ⟨w.heap.size + 1, 5, none⟩ = some (.int .i64 x.pack) := B5.cell 5
    have x6 : W.cell? ⟨w.heap.size + 1, 6, none⟩ = some (.int .i64 x.id) := B5.cell 6
    rw [h4] at x0
    have OC := hid (out_Anew (h.out.below BB) hn.out)
    have RC := hid ref_Anew
    have BB := hid BB; have B4 := hid B4; have B5 := hid B5; have B6 := hid B6; have B9 := hid B9; have BT := hid BT
    have hbl := again_len s (by have := h.out.ok.room; omega)
    have hbps := hid hbl.1
    have hbcs := hid hbl.2
    clear hbl
    go_wp2_with fail
    refine OC.out.mono ?_
    rintro e w1 ⟨_, _, L1, rfl, d⟩
    obtain ⟨ap, cp, rfl⟩ := own_slice d.packs
    obtain ⟨ac, cc, rfl⟩ := own_slice d.chgs
    generalize hps : SS.ps _ = ps at *
    generalize hcs : SS.cs _ = cs at *
    have hcs := hid hcs
    have hps := hid hps
    have hf : ∀ i, w.heap.size ≤ i → i < W.heap.size → i ∉ L1.foot := fun i h1 h2 => d.stp.not (fun hx => by have := h.out.lt _ hx; omega) h2
    have hf0 : ∀ i, w.heap.size ≤ i → i ∉ L.foot := fun i h1 hx => by have := h.out.lt _ hx; omega
    have s0 := B4.out.lt; have s2 := B6.out.lt; have s3 := B9.out.lt; have s4 := BT.out.lt; have s5 := B5.out.lt
    have C4 := B4.out.wrote d.stp.wrote (hf0 _ (by omega))
    have C5 := B5.out.wrote d.stp.wrote (hf0 _ (by omega))
    have C6 := B6.out.wrote d.stp.wrote (hf0 _ (by omega))
    have C9 := B9.out.wrote d.stp.wrote (hf0 _ (by omega))
    have CT := BT.out.wrote d.stp.wrote (hf0 _ (by omega))
    obtain ⟨nc, hnc⟩ : ∃ nc, cs.length = nc := ⟨_, rfl⟩
    obtain ⟨np, hnp⟩ : ∃ np, ps.length = np := ⟨_, rfl⟩
    have D := hid d
    have hf := hid hf
    clear d hf0
    rw [hnc, hnp]
    replace hnc := hid hnc
    replace hnp := hid hnp
    have y2 : w1.cell? ⟨w.heap.size + 1, 2, none⟩ = some (.string ⟨x.topic.toArray⟩) := C5.cell 2
    have y3 : w1.cell? ⟨w.heap.size + 1, 3, none⟩ = some (.string ⟨x.body.toArray⟩) := C5.cell 3
    have y1 : w1.cell? ⟨w.heap.size + 1, 1, none⟩ = some (.int .i64 x.qos) := C5.cell 1
    have y4 : w1.cell? ⟨w.heap.size + 1, 4, none⟩ = some (.bool x.retain) := C5.cell 4
    have y5 : w1.cell? ⟨w.heap.size + 1, 5, none⟩ = some (.int .i64 x.pack) := C5.cell 5
    have y6 : w1.cell? ⟨w.heap.size + 1, 6, none⟩ = some (.int .i64 x.id) := C5.cell 6
    have C4 := hid C4; have C5 := hid C5; have C6 := hid C6; have C9 := hid C9; have CT := hid CT
    go_wp2_with (first
      | (refine wpList_store_blk rfl 53 53 _ _ rfl 2 (fun w => by kernel_rfl) (w.heap.size + 1 + 1 + 1) _ #[.slice ap np cp, .slice ac nc cc] rfl rfl C9.out rfl rfl (by simp [Value.oneCell']) fun w2 h2 g2 => ?_
         have D4 := C4.out.wrote g2 (by simp; omega)
         have D5 := C5.out.wrote g2 (by simp)
         have D6 := C6.out.wrote g2 (by simp)
         have DT := CT.out.wrote g2 (by simp)
         have z2 : w2.cell? ⟨w.heap.size + 1, 2, none⟩ = some (.string ⟨x.topic.toArray⟩) := D5.cell 2
         have z3 : w2.cell? ⟨w.heap.size + 1, 3, none⟩ = some (.string ⟨x.body.toArray⟩) := D5.cell 3
         have z1 : w2.cell? ⟨w.heap.size + 1, 1, none⟩ = some (.int .i64 x.qos) := D5.cell 1
         have z4 : w2.cell? ⟨w.heap.size + 1, 4, none⟩ = some (.bool x.retain) := D5.cell 4
         have z5 : w2.cell? ⟨w.heap.size + 1, 5, none⟩ = some (.int .i64 x.pack) := D5.cell 5
         have z6 : w2.cell? ⟨w.heap.size + 1, 6, none⟩ = some (.int .i64 x.id) := D5.cell 6
         have D9 := hid h2; have D4 := hid D4; have D6 := hid D6; have DT := hid DT; have G2 := hid g2
         clear g2 h2)
      | (refine wpList_load_blk rfl 38 _ rfl w.heap.size #[.string ⟨#[]⟩, .int .i64 0, .int .i64 0, .int .i64 0, .int .i64 0, .slice none 0 0, .slice none 0 0, .slice none 0 0] rfl D4.out Tryz.underlying38 rfl (by kernel_rfl) ?_))
    refine (RC.out _).mono ?_
    rintro e w3 ⟨a, nn, c, qs, rfl, hnq, hq, hb3⟩
    have r3 := hid hb3
    have RQ := hid hq
    replace hnq := hid hnq
    replace D4 := hid (D4.out.below hb3)
    replace D6 := hid (D6.out.below hb3)
    replace D9 := hid (D9.out.below hb3)
    replace DT := hid (DT.out.below hb3)
    clear hb3 hq
    go_wp2_with (first
      | (refine wpList_store_blk rfl 38 38 _ _ rfl 8 (fun w => by kernel_rfl) w.heap.size _ #[.string ⟨#[]⟩, .int .i64 0, .int .i64 0, .int .i64 0, .int .i64 0, .slice none 0 0, .slice none 0 0, .slice none 0 0] rfl rfl D4.out rfl rfl (by simp [Value.oneCell']) fun w4 h4 g4 => ?_
         have E6 := hid (D6.out.wrote g4 (by simp <;> omega))
         have E9 := hid (D9.out.wrote g4 (by simp; omega))
         have ET := hid (DT.out.wrote g4 (by simp <;> omega))
         have E4 := hid h4
         have G4 := hid g4
         clear h4 g4)
      | (refine wpList_store_blk rfl 53 53 _ _ rfl 2 (fun w => by kernel_rfl) (w.heap.size + 1 + 1 + 1 + 1) _ #[.slice a nn c, .slice none 0 0] rfl rfl ET.out rfl rfl (by simp [Value.oneCell']) fun w5 h5 g5 => ?_
         have F4 := hid (E4.out.wrote g5 (by simp; omega))
         have F6 := hid (E6.out.wrote g5 (by simp))
         have F9 := hid (E9.out.wrote g5 (by simp))
         have FT := hid h5
         have G5 := hid g5
         clear h5 g5))
    have SD := hid fun (X : World) (e1 : X.ownsRow 0 81 24 (.slice ap np cp) np (ps.flatMap PackV.cells)) (e2 : X.ownsRow 0 115 10 (.slice ac nc cc) nc (cs.flatMap ChangeV.cells)) (e3 : X.ownsRow 0 81 24 (.slice a nn c) nn (qs.flatMap PackV.cells)) => by
      have h0 := r_SameDid ps qs cs [] ap ac a none cp cc c 0 X (by rw [hnp.out]; exact e1) (by rw [hnc.out]; exact e2) (by rw [← hnq.out]; exact e3) (World.ownsRow_nil _ _ _ _) (fun h => List.eq_nil_of_length_eq_zero h) hbps.out hbcs.out
      rw [hnp.out, hnc.out, ← hnq.out] at h0
      exact h0
    have hw5 := hid (show Wrote [w.heap.size, w.heap.size + 1 + 1 + 1, w.heap.size + 1 + 1 + 1 + 1] w1 w5 from (((G2.out.sub (by simp)).trans (Wrote.of_below r3.out)).trans (G4.out.sub (by simp))).trans (G5.out.sub (by simp)))
    have hn1 : ∀ i, i ∈ [w.heap.size, w.heap.size + 1 + 1 + 1, w.heap.size + 1 + 1 + 1 + 1] → i < W.heap.size := by simp; omega
    have rp := (ownsRow_mono (base' := 0) (not_own D.out.packs hw5.out (fun i hi hb => by have := (D.out.packs.lt i (mem_blk.1 hb)).1; have := hn1 i hi; omega)) (Nat.zero_le _))
    rw [hnp.out] at rp
    have RP := hid rp
    have rc := (not_own D.out.chgs hw5.out (fun i hi hb => by have := (D.out.chgs.lt i (mem_blk.1 hb)).1; have := hn1 i hi; omega))
    rw [hnc.out] at rc
    have RC0 := hid rc
    clear rp rc
    have w2s : w.heap.size + 1 + 1 + 1 + 1 < w2.heap.size := by have := D.out.stp.size; have := G2.out.size; omega
    have RQ5 := hid (ownsRow_mono (base' := 0) (not_own (not_own RQ.out G4.out (fun i hi hb => by have := (RQ.out.lt i (mem_blk.1 hb)).1; simp at hi; omega)) G5.out (fun i hi hb => by
      have := ((not_own RQ.out G4.out (fun i hi hb => by have := (RQ.out.lt i (mem_blk.1 hb)).1; simp at hi; omega)).lt i (mem_blk.1 hb)).1; simp at hi; omega)) (Nat.zero_le _))
    clear hn1
    refine regionQ [(1000, fun w' => Blk w' w.heap.size #[.string ⟨#[]⟩, .int .i64 0, .int .i64 0, .int .i64 0, .int .i64 0, .slice none 0 0, .slice none 0 0, .slice none 0 0] 38), (1000, fun w' => Blk w' (w.heap.size + 1 + 1 + 1) #[.slice ap np cp, .slice ac nc cc] 53), (1000, fun w' => Blk w' (w.heap.size + 1 + 1 + 1 + 1) #[.slice a nn c, .slice none 0 0] 53)] (by kernel_rfl) ⟨F4.out, F9.out, FT.out, trivial⟩ fun KQ hKQ => ?_
    refine loadQ 0 rfl (by kernel_rfl) (by kernel_rfl) rfl rfl 0 rfl (by kernel_rfl) _ (fun w' hf => run_load_blk hf 38 Tryz.underlying38 rfl (by kernel_rfl)) ?_
    simp only [Act.put, List.getElem_toArray, List.getElem_cons_zero, List.getElem_cons_succ, List.setIfInBounds_toArray, List.set_cons_zero, List.set_cons_succ]
    refine takeQ 1 rfl (by kernel_rfl) rfl (by kernel_rfl) fun K hK => ?_
    simp only [List.getElem_toArray, List.getElem_cons_zero, List.getElem_cons_succ]
    go_big_quiet_op
    refine hK _ ?_
    clear hK K
    refine loadQ 2 rfl (by kernel_rfl) (by kernel_rfl) rfl rfl 1 rfl (by kernel_rfl) _ (fun w' hf => by (have k1 := hf.cell 1; simp at k1; go_simp <;> with_reducible rfl)) ?_
    simp only [Act.put, List.getElem_toArray, List.getElem_cons_zero, List.getElem_cons_succ, List.setIfInBounds_toArray, List.set_cons_zero, List.set_cons_succ]
    refine takeQ 3 rfl (by kernel_rfl) rfl (by kernel_rfl) fun K hK => ?_
    simp only [List.getElem_toArray, List.getElem_cons_zero, List.getElem_cons_succ]
    go_big_quiet_op
    refine hK _ ?_
    clear hK K
    refine takeQ 4 rfl (by kernel_rfl) rfl (by kernel_rfl) fun K hK => ?_
    simp only [List.getElem_toArray, List.getElem_cons_zero, List.getElem_cons_succ]
    go_big_quiet_op
    refine hK _ ?_
    clear hK K
    refine takeQ 5 rfl (by kernel_rfl) rfl (by kernel_rfl) fun K hK => ?_
    simp only [List.getElem_toArray, List.getElem_cons_zero, List.getElem_cons_succ]
    go_big_quiet_op
    refine hK _ ?_
    clear hK K
    refine takeQ 6 rfl (by kernel_rfl) rfl (by kernel_rfl) fun K hK => ?_
    simp only [List.getElem_toArray, List.getElem_cons_zero, List.getElem_cons_succ]
    go_big_quiet_op
    refine hK _ ?_
    clear hK K
    refine loadQ 7 rfl (by kernel_rfl) (by kernel_rfl) rfl rfl 1 rfl (by kernel_rfl) _ (fun w' hf => run_load_blk hf 53 Tryz.underlying53 rfl (by kernel_rfl)) ?_
    simp only [Act.put, List.getElem_toArray, List.getElem_cons_zero, List.getElem_cons_succ, List.setIfInBounds_toArray, List.set_cons_zero, List.set_cons_succ]
    refine loadQ 8 rfl (by kernel_rfl) (by kernel_rfl) rfl rfl 2 rfl (by kernel_rfl) _ (fun w' hf => run_load_blk hf 53 Tryz.underlying53 rfl (by kernel_rfl)) ?_
    simp only [Act.put, List.getElem_toArray, List.getElem_cons_zero, List.getElem_cons_succ, List.setIfInBounds_toArray, List.set_cons_zero, List.set_cons_succ]
    refine stepQ 9 rfl (by kernel_rfl) (by decide) (by kernel_rfl) fun K hK => ?_
    simp only [List.getElem_toArray, List.getElem_cons_zero, List.getElem_cons_succ]
    go_simp
    refine (SD.out _ RP.out.drew (ownsRow_mono (base' := 0) RC0.out (Nat.zero_le _)).drew RQ5.out.drew).mono ?_
    rintro e w6 ⟨⟨bb, rfl, -⟩, hb6⟩
    have I4 := F4.out.drew.below hb6
    have I6 := F6.out.drew.below hb6
    have I9 := F9.out.drew.below hb6
    have IT := FT.out.drew.below hb6
    have IC := ownsRow_below RC0.out.drew hb6
    have hb6 := (Below.refl w5.heap.size w5).drew.trans hb6
    refine hK _ _ ⟨⟨fun _ => I4, fun _ => I9, fun _ => IT, trivial⟩, ?_⟩
    clear hK K
    try simp only [Act.put, List.getElem_toArray, List.getElem_cons_zero, List.getElem_cons_succ, List.setIfInBounds_toArray, List.set_cons_zero, List.set_cons_succ]
    refine takeQ 10 rfl (by kernel_rfl) rfl (by kernel_rfl) fun K hK => ?_
    simp only [List.getElem_toArray, List.getElem_cons_zero, List.getElem_cons_succ]
    go_big_quiet_op
    refine hK _ ?_
    clear hK K
    refine stepQ 11 rfl (by kernel_rfl) (by decide) (by kernel_rfl) fun K hK => ?_
    simp only [List.getElem_toArray, List.getElem_cons_zero, List.getElem_cons_succ]
    refine wp_store_whole 38 38 _ _ rfl 8 (fun w => by kernel_rfl) (w.heap.size + 1 + 1) _ #[.string ⟨#[]⟩, .int .i64 0, .int .i64 0, .int .i64 0, .int .i64 0, .slice none 0 0, .slice none 0 0, .slice none 0 0] rfl rfl I6 rfl rfl (by simp [Value.oneCell']) fun w7 h7 g7 => ?_
    have hw7 : Wrote [w.heap.size, w.heap.size + 1 + 1 + 1, w.heap.size + 1 + 1 + 1 + 1, w.heap.size + 1 + 1] w1 w7 := ((hw5.out.sub (by simp)).trans (Wrote.of_below hb6)).trans (g7.sub (by simp))
    have J4 := I4.wrote g7 (by simp <;> omega)
    have J9 := I9.wrote g7 (by simp <;> omega)
    have JT := IT.wrote g7 (by simp <;> omega)
    have JC := not_own IC g7 (fun i hi hb => by have := (IC.lt i (mem_blk.1 hb)).1; simp at hi; omega)
    refine hK _ _ ⟨⟨fun _ => J4, fun _ => J9, fun _ => JT, trivial⟩, ?_⟩
    clear hK K
    try simp only [Act.put, List.getElem_toArray, List.getElem_cons_zero, List.getElem_cons_succ, List.setIfInBounds_toArray, List.set_cons_zero, List.set_cons_succ]
    refine takeQ 12 rfl (by kernel_rfl) rfl (by kernel_rfl) fun K hK => ?_
    simp only [List.getElem_toArray, List.getElem_cons_zero, List.getElem_cons_succ]
    go_big_quiet_op
    refine hK _ ?_
    clear hK K
    refine takeQ 13 rfl (by kernel_rfl) rfl (by kernel_rfl) fun K hK => ?_
    simp only [List.getElem_toArray, List.getElem_cons_zero, List.getElem_cons_succ]
    go_big_quiet_op
    refine hK _ ?_
    clear hK K
    refine doneQ (by kernel_rfl) (hKQ.out _ _ ?_)
    clear hKQ KQ
    go_wp2
    change bodyPost Tryz.prog Tryz.f11 _ _ _ _
    refine bodyPost_ret (v := .tuple #[.agg #[.string ⟨#[]⟩, .int .i64 0, .int .i64 0, .int .i64 0, .int .i64 0, .slice none 0 0, .slice none 0 0, .slice none 0 0], .slice ac nc cc, .bool bb]) ?_ rfl ⟨ac, nc, cc, bb, L1, rfl, ?_, D.out.nil, D.out.p, ?_, by rw [hcs.out, hnc.out], ?_⟩
    · exact results_ctt Tryz.results11 rfl (run_loadVar_blk (P := Tryz.prog) h7 38 Tryz.underlying38 rfl (by kernel_rfl)) rfl rfl
    · refine ob_rebase2 (D.out.ob.out hw7 (fun i hi => hf.out i ?_ ?_) ?_) D.out.nil
      · simp at hi; omega
      · simp at hi; omega
      · have := h.out.tz.lt; simp; omega
    · exact ((Stp.below BB.out).trans D.out.stp).fresh hw7 (fun i hi => by simp at hi; omega)
    · rw [hcs.out]
      exact ownsRow_mono JC (by have := BB.out.size; omega)
  · have hs : s.does x = ⟨s, [], []⟩ := by unfold OS.does; rw [if_neg h1, if_neg h2, if_neg h3, if_neg h4]
    rw [hs]
    clear hs
    have f1 : (x.kind == 1) = false := by simpa using h1
    have f2 : (x.kind == 2) = false := by simpa using h2
    have f3 : (x.kind == 3) = false := by simpa using h3
    have f4 : (x.kind == 4) = false := by simpa using h4
    go_enter Tryz.func11, Tryz.ntmps11
    go_upto_region 3 with (fail)
    obtain ⟨W, hW⟩ : ∃ W, W = (((((w.alloc (.cells zA 38)).alloc (.cells x.cells 43)).alloc (.cells zA 38)).alloc (.cells #[.slice none 0 0, .slice none 0 0] 53)).alloc (.cells #[.slice none 0 0, .slice none 0 0] 53)) := ⟨_, rfl⟩
    have B4 : Blk W w.heap.size zA 38 := by rw [hW]; exact ((((Blk.new w _ _).alloc _).alloc _).alloc _).alloc _
    have B5 : Blk W (w.heap.size + 1) x.cells 43 := by rw [hW]; exact (((Blk.new_at _ _ _ _ (by simp)).alloc _).alloc _).alloc _
    have B6 : Blk W (w.heap.size + 1 + 1) zA 38 := by rw [hW]; exact ((Blk.new_at _ _ _ _ (by simp)).alloc _).alloc _
    have B9 : Blk W (w.heap.size + 1 + 1 + 1) #[.slice none 0 0, .slice none 0 0] 53 := by rw [hW]; exact (Blk.new_at _ _ _ _ (by simp)).alloc _
    have BT : Blk W (w.heap.size + 1 + 1 + 1 + 1) #[.slice none 0 0, .slice none 0 0] 53 := by rw [hW]; exact Blk.new_at _ _ _ _ (by simp)
    have BB : Below w.heap.size w W := by
      rw [hW]
      repeat (first | exact Below.refl _ _ | (refine Below.setCell ?_ (by simp <;> omega) _) | (refine Below.alloc ?_ (by simp <;> omega) _) | refine Below.drew ?_)
    refine wp_world hW.symm ?_
    clear hW
    have x0 : W.cell? ⟨w.heap.size + 1, 0, none⟩ = some (.int .i64 x.kind) := B5.cell 0
    have x1 : W.cell? ⟨w.heap.size + 1, 1, none⟩ = some (.int .i64 x.qos) := B5.cell 1
    have x2 : W.cell? ⟨w.heap.size + 1, 2, none⟩ = some (.string ⟨x.topic.toArray⟩) := B5.cell 2
    have x3 : W.cell? ⟨w.heap.size + 1, 3, none⟩ = some (.string ⟨x.body.toArray⟩) := B5.cell 3
    have x4 : W.cell? ⟨w.heap.size + 1, 4, none⟩ = some (.bool x.retain) := B5.cell 4
    have x5 : W.cell? ⟨w.heap.size + 1, 5, none⟩ = some (.int .i64 x.pack) := B5.cell 5
    have x6 : W.cell? ⟨w.heap.size + 1, 6, none⟩ = some (.int .i64 x.id) := B5.cell 6
    obtain ⟨w5, hE⟩ : ∃ w5, w5 = W := ⟨_, rfl⟩
    obtain ⟨ap, ac, a, np, cp, nc, cc, nn, c, hv⟩ : ∃ (ap ac a : Option Addr) (np cp nc cc nn c : Nat), ap = none ∧ ac = none ∧ a = none ∧ np = 0 ∧ cp = 0 ∧ nc = 0 ∧ cc = 0 ∧ nn = 0 ∧ c = 0 := ⟨_, _, _, _, _, _, _, _, _, rfl, rfl, rfl, rfl, rfl, rfl, rfl, rfl, rfl⟩
    obtain ⟨ps, cs, qs, hl⟩ : ∃ (ps : List PackV) (cs : List ChangeV) (qs : List PackV), ps = [] ∧ cs = [] ∧ qs = [] := ⟨_, _, _, rfl, rfl, rfl⟩
    have D : Hid (DidAt W w5 L L s (.slice ap np cp) (.slice ac nc cc) ps cs) := hid (by obtain ⟨rfl, rfl, rfl, rfl, rfl, rfl, rfl, rfl, rfl⟩ := hv; obtain ⟨rfl, rfl, rfl⟩ := hl; rw [hE]; exact did_none (h.out.below BB) hn.out (Below.refl _ _))
    have hf : Hid (∀ i, w.heap.size ≤ i → i < W.heap.size → i ∉ L.foot) := hid fun i h1 _ hx => by have := h.out.lt _ hx; omega
    have s0 := B4.lt; have s2 := B6.lt; have s3 := B9.lt; have s4 := BT.lt; have s5 := B5.lt
    rw [← hE] at x0
    have F4 : Hid (Blk w5 w.heap.size zA 38) := hid (by rw [hE]; exact B4)
    have F6 : Hid (Blk w5 (w.heap.size + 1 + 1) zA 38) := hid (by rw [hE]; exact B6)
    have F9 : Hid (Blk w5 (w.heap.size + 1 + 1 + 1) #[.slice ap np cp, .slice ac nc cc] 53) := hid (by obtain ⟨rfl, rfl, rfl, rfl, rfl, rfl, rfl, rfl, rfl⟩ := hv; rw [hE]; exact B9)
    have FT : Hid (Blk w5 (w.heap.size + 1 + 1 + 1 + 1) #[.slice a nn c, .slice none 0 0] 53) := hid (by obtain ⟨rfl, rfl, rfl, rfl, rfl, rfl, rfl, rfl, rfl⟩ := hv; rw [hE]; exact BT)
    have hnp : Hid (ps.length = np) := hid (by rw [hl.1, hv.2.2.2.1]; rfl)
    have hnc : Hid (cs.length = nc) := hid (by rw [hl.2.1, hv.2.2.2.2.2.1]; rfl)
    have hnq : Hid (nn = qs.length) := hid (by rw [hl.2.2, hv.2.2.2.2.2.2.2.1]; rfl)
    have hcs : Hid ([] = cs) := hid hl.2.1.symm
    have hbps : Hid (ps.length ≤ 100000) := hid (by rw [hl.1]; simp)
    have hbcs : Hid (cs.length ≤ 100000) := hid (by rw [hl.2.1]; simp)
    have RQ : Hid (w5.ownsRow (w.heap.size + 1 + 1 + 1 + 1 + 1) 81 24 (.slice a nn c) nn (qs.flatMap PackV.cells)) := hid (by obtain ⟨rfl, rfl, rfl, rfl, rfl, rfl, rfl, rfl, rfl⟩ := hv; obtain ⟨rfl, rfl, rfl⟩ := hl; exact World.ownsRow_nil _ _ _ _)
    have BB := hid BB
    have G2 : Hid (Wrote [w.heap.size + 1 + 1 + 1] w5 w5) := hid (Wrote.refl _ _)
    have r3 := hid (Below.refl w5.heap.size w5)
    have G4 : Hid (Wrote [w.heap.size] w5 w5) := hid (Wrote.refl _ _)
    have G5 : Hid (Wrote [w.heap.size + 1 + 1 + 1 + 1] w5 w5) := hid (Wrote.refl _ _)
    refine wp_world hE.symm ?_
    have sE : W.heap.size = w5.heap.size := by rw [hE]
    replace hv := hid hv
    replace hl := hid hl
    replace hE := hid hE
    go_wp2_with fail
    have SD := hid fun (X : World) (e1 : X.ownsRow 0 81 24 (.slice ap np cp) np (ps.flatMap PackV.cells)) (e2 : X.ownsRow 0 115 10 (.slice ac nc cc) nc (cs.flatMap ChangeV.cells)) (e3 : X.ownsRow 0 81 24 (.slice a nn c) nn (qs.flatMap PackV.cells)) => by
      have h0 := r_SameDid ps qs cs [] ap ac a none cp cc c 0 X (by rw [hnp.out]; exact e1) (by rw [hnc.out]; exact e2) (by rw [← hnq.out]; exact e3) (World.ownsRow_nil _ _ _ _) (fun h => List.eq_nil_of_length_eq_zero h) hbps.out hbcs.out
      rw [hnp.out, hnc.out, ← hnq.out] at h0
      exact h0
    have hw5 := hid (show Wrote [w.heap.size, w.heap.size + 1 + 1 + 1, w.heap.size + 1 + 1 + 1 + 1] w5 w5 from (((G2.out.sub (by simp)).trans (Wrote.of_below r3.out)).trans (G4.out.sub (by simp))).trans (G5.out.sub (by simp)))
    have hn1 : ∀ i, i ∈ [w.heap.size, w.heap.size + 1 + 1 + 1, w.heap.size + 1 + 1 + 1 + 1] → i < W.heap.size := by simp; omega
    have rp := (ownsRow_mono (base' := 0) (not_own D.out.packs hw5.out (fun i hi hb => by have := (D.out.packs.lt i (mem_blk.1 hb)).1; have := hn1 i hi; omega)) (Nat.zero_le _))
    rw [hnp.out] at rp
    have RP := hid rp
    have rc := (not_own D.out.chgs hw5.out (fun i hi hb => by have := (D.out.chgs.lt i (mem_blk.1 hb)).1; have := hn1 i hi; omega))
    rw [hnc.out] at rc
    have RC0 := hid rc
    clear rp rc
    have w5s : w.heap.size + 1 + 1 + 1 + 1 < w5.heap.size := by have := D.out.stp.size; have := G2.out.size; omega
    have RQ5 := hid (ownsRow_mono (base' := 0) (not_own (not_own RQ.out G4.out (fun i hi hb => by have := (RQ.out.lt i (mem_blk.1 hb)).1; simp at hi; omega)) G5.out (fun i hi hb => by
      have := ((not_own RQ.out G4.out (fun i hi hb => by have := (RQ.out.lt i (mem_blk.1 hb)).1; simp at hi; omega)).lt i (mem_blk.1 hb)).1; simp at hi; omega)) (Nat.zero_le _))
    clear hn1
    refine regionQ [(1000, fun w' => Blk w' w.heap.size #[.string ⟨#[]⟩, .int .i64 0, .int .i64 0, .int .i64 0, .int .i64 0, .slice none 0 0, .slice none 0 0, .slice none 0 0] 38), (1000, fun w' => Blk w' (w.heap.size + 1 + 1 + 1) #[.slice ap np cp, .slice ac nc cc] 53), (1000, fun w' => Blk w' (w.heap.size + 1 + 1 + 1 + 1) #[.slice a nn c, .slice none 0 0] 53)] (by kernel_rfl) ⟨F4.out, F9.out, FT.out, trivial⟩ fun KQ hKQ => ?_
    refine loadQ 0 rfl (by kernel_rfl) (by kernel_rfl) rfl rfl 0 rfl (by kernel_rfl) _ (fun w' hf => run_load_blk hf 38 Tryz.underlying38 rfl (by kernel_rfl)) ?_
    simp only [Act.put, List.getElem_toArray, List.getElem_cons_zero, List.getElem_cons_succ, List.setIfInBounds_toArray, List.set_cons_zero, List.set_cons_succ]
    refine takeQ 1 rfl (by kernel_rfl) rfl (by kernel_rfl) fun K hK => ?_
    simp only [List.getElem_toArray, List.getElem_cons_zero, List.getElem_cons_succ]
    go_big_quiet_op
    refine hK _ ?_
    clear hK K
    refine loadQ 2 rfl (by kernel_rfl) (by kernel_rfl) rfl rfl 1 rfl (by kernel_rfl) _ (fun w' hf => by (have k1 := hf.cell 1; simp at k1; go_simp <;> with_reducible rfl)) ?_
    simp only [Act.put, List.getElem_toArray, List.getElem_cons_zero, List.getElem_cons_succ, List.setIfInBounds_toArray, List.set_cons_zero, List.set_cons_succ]
    refine takeQ 3 rfl (by kernel_rfl) rfl (by kernel_rfl) fun K hK => ?_
    simp only [List.getElem_toArray, List.getElem_cons_zero, List.getElem_cons_succ]
    go_big_quiet_op
    refine hK _ ?_
    clear hK K
    refine takeQ 4 rfl (by kernel_rfl) rfl (by kernel_rfl) fun K hK => ?_
    simp only [List.getElem_toArray, List.getElem_cons_zero, List.getElem_cons_succ]
    go_big_quiet_op
    refine hK _ ?_
    clear hK K
    refine takeQ 5 rfl (by kernel_rfl) rfl (by kernel_rfl) fun K hK => ?_
    simp only [List.getElem_toArray, List.getElem_cons_zero, List.getElem_cons_succ]
    go_big_quiet_op
    refine hK _ ?_
    clear hK K
    refine takeQ 6 rfl (by kernel_rfl) rfl (by kernel_rfl) fun K hK => ?_
    simp only [List.getElem_toArray, List.getElem_cons_zero, List.getElem_cons_succ]
    go_big_quiet_op
    refine hK _ ?_
    clear hK K
    refine loadQ 7 rfl (by kernel_rfl) (by kernel_rfl) rfl rfl 1 rfl (by kernel_rfl) _ (fun w' hf => run_load_blk hf 53 Tryz.underlying53 rfl (by kernel_rfl)) ?_
    simp only [Act.put, List.getElem_toArray, List.getElem_cons_zero, List.getElem_cons_succ, List.setIfInBounds_toArray, List.set_cons_zero, List.set_cons_succ]
    refine loadQ 8 rfl (by kernel_rfl) (by kernel_rfl) rfl rfl 2 rfl (by kernel_rfl) _ (fun w' hf => run_load_blk hf 53 Tryz.underlying53 rfl (by kernel_rfl)) ?_
    simp only [Act.put, List.getElem_toArray, List.getElem_cons_zero, List.getElem_cons_succ, List.setIfInBounds_toArray, List.set_cons_zero, List.set_cons_succ]
    refine stepQ 9 rfl (by kernel_rfl) (by decide) (by kernel_rfl) fun K hK => ?_
    simp only [List.getElem_toArray, List.getElem_cons_zero, List.getElem_cons_succ]
    go_simp
    refine (SD.out _ RP.out.drew (ownsRow_mono (base' := 0) RC0.out (Nat.zero_le _)).drew RQ5.out.drew).mono ?_
    rintro e w6 ⟨⟨bb, rfl, -⟩, hb6⟩
    have I4 := F4.out.drew.below hb6
    have I6 := F6.out.drew.below hb6
    have I9 := F9.out.drew.below hb6
    have IT := FT.out.drew.below hb6
    have IC := ownsRow_below RC0.out.drew hb6
    have hb6 := (Below.refl w5.heap.size w5).drew.trans hb6
    refine hK _ _ ⟨⟨fun _ => I4, fun _ => I9, fun _ => IT, trivial⟩, ?_⟩
    clear hK K
    try simp only [Act.put, List.getElem_toArray, List.getElem_cons_zero, List.getElem_cons_succ, List.setIfInBounds_toArray, List.set_cons_zero, List.set_cons_succ]
    refine takeQ 10 rfl (by kernel_rfl) rfl (by kernel_rfl) fun K hK => ?_
    simp only [List.getElem_toArray, List.getElem_cons_zero, List.getElem_cons_succ]
    go_big_quiet_op
    refine hK _ ?_
    clear hK K
    refine stepQ 11 rfl (by kernel_rfl) (by decide) (by kernel_rfl) fun K hK => ?_
    simp only [List.getElem_toArray, List.getElem_cons_zero, List.getElem_cons_succ]
    refine wp_store_whole 38 38 _ _ rfl 8 (fun w => by kernel_rfl) (w.heap.size + 1 + 1) _ #[.string ⟨#[]⟩, .int .i64 0, .int .i64 0, .int .i64 0, .int .i64 0, .slice none 0 0, .slice none 0 0, .slice none 0 0] rfl rfl I6 rfl rfl (by simp [Value.oneCell']) fun w7 h7 g7 => ?_
    have hw7 : Wrote [w.heap.size, w.heap.size + 1 + 1 + 1, w.heap.size + 1 + 1 + 1 + 1, w.heap.size + 1 + 1] w5 w7 := ((hw5.out.sub (by simp)).trans (Wrote.of_below hb6)).trans (g7.sub (by simp))
    have J4 := I4.wrote g7 (by simp <;> omega)
    have J9 := I9.wrote g7 (by simp <;> omega)
    have JT := IT.wrote g7 (by simp <;> omega)
    have JC := not_own IC g7 (fun i hi hb => by have := (IC.lt i (mem_blk.1 hb)).1; simp at hi; omega)
    refine hK _ _ ⟨⟨fun _ => J4, fun _ => J9, fun _ => JT, trivial⟩, ?_⟩
    clear hK K
    try simp only [Act.put, List.getElem_toArray, List.getElem_cons_zero, List.getElem_cons_succ, List.setIfInBounds_toArray, List.set_cons_zero, List.set_cons_succ]
    refine takeQ 12 rfl (by kernel_rfl) rfl (by kernel_rfl) fun K hK => ?_
    simp only [List.getElem_toArray, List.getElem_cons_zero, List.getElem_cons_succ]
    go_big_quiet_op
    refine hK _ ?_
    clear hK K
    refine takeQ 13 rfl (by kernel_rfl) rfl (by kernel_rfl) fun K hK => ?_
    simp only [List.getElem_toArray, List.getElem_cons_zero, List.getElem_cons_succ]
    go_big_quiet_op
    refine hK _ ?_
    clear hK K
    refine doneQ (by kernel_rfl) (hKQ.out _ _ ?_)
    clear hKQ KQ
    go_wp2
    change bodyPost Tryz.prog Tryz.f11 _ _ _ _
    refine bodyPost_ret (v := .tuple #[.agg #[.string ⟨#[]⟩, .int .i64 0, .int .i64 0, .int .i64 0, .int .i64 0, .slice none 0 0, .slice none 0 0, .slice none 0 0], .slice ac nc cc, .bool bb]) ?_ rfl ⟨ac, nc, cc, bb, L, rfl, ?_, D.out.nil, D.out.p, ?_, by rw [hcs.out, hnc.out], ?_⟩
    · exact results_ctt Tryz.results11 rfl (run_loadVar_blk (P := Tryz.prog) h7 38 Tryz.underlying38 rfl (by kernel_rfl)) rfl rfl
    · refine ob_rebase2 (D.out.ob.out hw7 (fun i hi => hf.out i ?_ ?_) ?_) D.out.nil
      · simp at hi; omega
      · simp at hi; omega
      · have := h.out.tz.lt; simp; omega
    · exact ((Stp.below BB.out).trans D.out.stp).fresh hw7 (fun i hi => by simp at hi; omega)
    · rw [hcs.out]
      exact ownsRow_mono JC (by have := BB.out.size; omega)
end Go.Proofs.YtoinabapaeebfaaGreatDoor
