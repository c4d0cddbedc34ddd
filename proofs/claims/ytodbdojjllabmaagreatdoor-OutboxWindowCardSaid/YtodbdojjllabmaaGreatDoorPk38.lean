/- The walk of OutboxWindow. -/
import Derived.Test.YtodbdojjllabmaaGreatDoorPk34
import Derived.Test.YtodbdojjllabmaaGreatDoorPk35
import Derived.Test.YtodbdojjllabmaaGreatDoorPk37
import Derived.Deep.Cut
import Derived.Deep.QuietTactic
import Derived.BigQuiet
namespace Go.Proofs.YtodbdojjllabmaaGreatDoor
open Go.RowKit Go.Shelf

theorem wp_calls {P : Program} {f : FuncId} {args : Array Value} {X W : World} {K : Ending → World → Prop} (h : X = W) (hw : Calls P f args W K) : Calls P f args X K := h ▸ hw
set_option maxRecDepth 100000 in
set_option maxHeartbeats 4000000 in
theorem walk_OutboxWindow (x0 x1 : Int) (al : Option Addr) (nl cl : Nat) (xs : List ActV) (w : World) (hA : ActsAt w al nl cl xs) (hT : TzAt w) :
    Calls Tryz.prog 5 #[.agg #[.int .i64 x0, .int .i64 x1], .slice al nl cl] w fun e w' => e = .returned (.bool true) ∧ Below w.heap.size w w' := by
  have KH := hid known_holds
  have CF := hid fun (W : World) (hb : Below w.heap.size w W) => law_few 40 al nl cl xs W (hA.below hb) (by omega)
  have hA := hid hA
  by_cases r1 : x0 < 1
  · have d1 : decide (x0 < 1) = true := decide_eq_true r1
    go_enter Tryz.func5, Tryz.ntmps5
    go_wp2_with fail
    refine (CF.out _ ((Below.refl _ w).alloc (Nat.le_refl _) _)).mono ?_
    rintro e wf ⟨b, rfl, hfb, hbf⟩
    have hbx := hid ((Blk.new w #[.int .i64 x0, .int .i64 x1] 54).below hbf)
    have c0 : wf.cell? ⟨w.heap.size, 0, none⟩ = some (.int .i64 x0) := hbx.out.cell 0
    have c1 : wf.cell? ⟨w.heap.size, 1, none⟩ = some (.int .i64 x1) := hbx.out.cell 1
    have hbf := hid (((Below.refl _ w).alloc (Nat.le_refl _) _).trans (hbf.mono (by simp)))
    have hTf := hid (hT.below hbf.out)
    cases b
    all_goals
      go_wp2_with fail
      refine (KH.out _ hTf.out).mono ?_
      rintro e w8 ⟨rfl, hb8⟩
      go_wp2
      go_ret
      exact ⟨rfl, hbf.out.trans (hb8.mono hbf.out.size)⟩
  have d1 : decide (x0 < 1) = false := decide_eq_false r1
  by_cases r2 : 100 < x0
  · have d2 : decide (100 < x0) = true := decide_eq_true r2
    go_enter Tryz.func5, Tryz.ntmps5
    go_wp2_with fail
    refine (CF.out _ ((Below.refl _ w).alloc (Nat.le_refl _) _)).mono ?_
    rintro e wf ⟨b, rfl, hfb, hbf⟩
    have hbx := hid ((Blk.new w #[.int .i64 x0, .int .i64 x1] 54).below hbf)
    have c0 : wf.cell? ⟨w.heap.size, 0, none⟩ = some (.int .i64 x0) := hbx.out.cell 0
    have c1 : wf.cell? ⟨w.heap.size, 1, none⟩ = some (.int .i64 x1) := hbx.out.cell 1
    have hbf := hid (((Below.refl _ w).alloc (Nat.le_refl _) _).trans (hbf.mono (by simp)))
    have hTf := hid (hT.below hbf.out)
    cases b
    all_goals
      go_wp2_with fail
      refine (KH.out _ hTf.out).mono ?_
      rintro e w8 ⟨rfl, hb8⟩
      go_wp2
      go_ret
      exact ⟨rfl, hbf.out.trans (hb8.mono hbf.out.size)⟩
  have d2 : decide (100 < x0) = false := decide_eq_false r2
  by_cases r3 : x1 < 1
  · have d3 : decide (x1 < 1) = true := decide_eq_true r3
    go_enter Tryz.func5, Tryz.ntmps5
    go_wp2_with fail
    refine (CF.out _ ((Below.refl _ w).alloc (Nat.le_refl _) _)).mono ?_
    rintro e wf ⟨b, rfl, hfb, hbf⟩
    have hbx := hid ((Blk.new w #[.int .i64 x0, .int .i64 x1] 54).below hbf)
    have c0 : wf.cell? ⟨w.heap.size, 0, none⟩ = some (.int .i64 x0) := hbx.out.cell 0
    have c1 : wf.cell? ⟨w.heap.size, 1, none⟩ = some (.int .i64 x1) := hbx.out.cell 1
    have hbf := hid (((Below.refl _ w).alloc (Nat.le_refl _) _).trans (hbf.mono (by simp)))
    have hTf := hid (hT.below hbf.out)
    cases b
    all_goals
      go_wp2_with fail
      refine (KH.out _ hTf.out).mono ?_
      rintro e w8 ⟨rfl, hb8⟩
      go_wp2
      go_ret
      exact ⟨rfl, hbf.out.trans (hb8.mono hbf.out.size)⟩
  have d3 : decide (x1 < 1) = false := decide_eq_false r3
  by_cases r4 : 1000 < x1
  · have d4 : decide (1000 < x1) = true := decide_eq_true r4
    go_enter Tryz.func5, Tryz.ntmps5
    go_wp2_with fail
    refine (CF.out _ ((Below.refl _ w).alloc (Nat.le_refl _) _)).mono ?_
    rintro e wf ⟨b, rfl, hfb, hbf⟩
    have hbx := hid ((Blk.new w #[.int .i64 x0, .int .i64 x1] 54).below hbf)
    have c0 : wf.cell? ⟨w.heap.size, 0, none⟩ = some (.int .i64 x0) := hbx.out.cell 0
    have c1 : wf.cell? ⟨w.heap.size, 1, none⟩ = some (.int .i64 x1) := hbx.out.cell 1
    have hbf := hid (((Below.refl _ w).alloc (Nat.le_refl _) _).trans (hbf.mono (by simp)))
    have hTf := hid (hT.below hbf.out)
    cases b
    all_goals
      go_wp2_with fail
      refine (KH.out _ hTf.out).mono ?_
      rintro e w8 ⟨rfl, hb8⟩
      go_wp2
      go_ret
      exact ⟨rfl, hbf.out.trans (hb8.mono hbf.out.size)⟩
  have d4 : decide (1000 < x1) = false := decide_eq_false r4
  go_enter Tryz.func5, Tryz.ntmps5
  go_wp2_with fail
  refine (CF.out _ ((Below.refl _ w).alloc (Nat.le_refl _) _)).mono ?_
  rintro e wf ⟨b, rfl, hfb, hbf⟩
  have hbx := hid ((Blk.new w #[.int .i64 x0, .int .i64 x1] 54).below hbf)
  have c0 : wf.cell? ⟨w.heap.size, 0, none⟩ = some (.int .i64 x0) := hbx.out.cell 0
  have c1 : wf.cell? ⟨w.heap.size, 1, none⟩ = some (.int .i64 x1) := hbx.out.cell 1
  have hbf := hid (((Below.refl _ w).alloc (Nat.le_refl _) _).trans (hbf.mono (by simp)))
  have hTf := hid (hT.below hbf.out)
  cases b
  · skip
    go_wp2_with fail
    refine (KH.out _ hTf.out).mono ?_
    rintro e w8 ⟨rfl, hb8⟩
    go_wp2
    go_ret
    exact ⟨rfl, hbf.out.trans (hb8.mono hbf.out.size)⟩
  · have hfew := hid (hfb rfl)
    have hn40 : nl ≤ 40 := by have := hfew.out.1; omega
    clear hfb
    have CN := hid (out_New x0 x1 [99] wf hTf.out ⟨by omega, by omega⟩ ⟨by omega, by omega⟩ (by decide) kM0)
    go_wp2_with fail
    refine CN.out.mono ?_
    rintro e w0 ⟨L0, rfl, hO0, hn0, hS0⟩
    obtain ⟨p, hp⟩ : ∃ p, L0.p = p := ⟨_, rfl⟩
    rw [hp]
    have hO0 := hid hO0
    have hS0 := hid hS0
    clear CN
    go_wp2_with fail
    go_loopw [7] (fun i wr => ∃ (k : Nat) (s : OS) (L : Lay), i = .int .i64 k ∧ k ≤ nl ∧ Hid (L.p = p) ∧ Hid (L.vp = .slice none 0 0 ∧ L.vc = .slice none 0 0) ∧ Hid (OB wr wr.heap.size L s [] []) ∧ Hid (Stp [] L.foot wf wr) ∧ Hid (Wn x0 x1 s) ∧ Hid (s.seq ≤ k)) (fun i _ => nl - (intOf i).toNat)
    case atStart => exact ⟨0, _, L0, rfl, Nat.zero_le _, hid hp, hid hn0, hO0, hS0, hid ⟨Rg.nil _, rfl, rfl⟩, hid (Int.le_refl _)⟩
    case round =>
      obtain ⟨k, s, L, rfl, hk, hLp, hLn, hLO, hLS, hLW, hLq⟩ := hrel
      have hbw := hid (hLS.out.wrote.below (n₀ := wf.heap.size) (Nat.le_refl _) (by simp))
      rcases Nat.lt_or_ge k nl with hlt | hge
      · have dk : decide ((k : Int) < (nl : Int)) = true := decide_eq_true (by omega)
        obtain ⟨x, hx⟩ : ∃ x, xs[k]? = some x := ⟨_, List.getElem?_eq_getElem (by have := hA.out.len; omega)⟩
        obtain ⟨g, off, rfl, hg, hr⟩ := (hA.out.below (hbf.out.trans (hbw.out.mono hbf.out.size))).at' k x hx
        have hr := hid hr
        have hcl := hA.out.le
        have CD := hid (law_does hLO.out hLn.out x (by have := hfew.out.2 x (List.mem_of_getElem? hx); have := this.1; omega) (by have := hfew.out.1; have := hLq.out; omega))
        rw [hLp.out] at CD
        unfold ActV.cells refA at CD
        go_wp2_with (refine wpList_load_mid rfl 63 _ rfl g (off + k * 7) rfl [.int .i64 x.kind, .int .i64 x.qos, .string ⟨x.topic.toArray⟩, .string ⟨x.body.toArray⟩, .bool x.retain, .int .i64 x.pack, .int .i64 x.id] _ hr.out Tryz.underlying63 rfl (by kernel_rfl) ?_)
        refine CD.out.mono ?_
        rintro e w1 ⟨ad, nd, cd, bd, L1, rfl, D⟩
        obtain ⟨s1, hs1⟩ : ∃ s1, (s.does x).s = s1 := ⟨_, rfl⟩
        have hW1 := hid (hLW.out.does x)
        have hq1 : Hid (s1.seq ≤ (k + 1 : Nat)) := hid (by have h1 := does_seq s x; have h2 := hLq.out; rw [hs1] at h1; omega)
        have hO1 := hid D.ob
        have hn1 := hid D.nil
        have hp1 := hid (D.p.trans hLp.out)
        have hS1 := hid (hLS.out.trans D.stp)
        rw [hs1] at hW1 hO1
        clear D CD hs1 hr hLO hLn hLW hLq hLS hLp hbw
        have CR := hid (out_Rows hO1.out)
        rw [hp1.out] at CR
        go_wp2_with fail
        refine CR.out.mono ?_
        rintro e w2 ⟨v, rfl, hR, hb2⟩
        obtain ⟨av, cv, rfl⟩ := own_slice hR
        obtain ⟨nr, hnr⟩ : ∃ nr, s1.l.length = nr := ⟨_, rfl⟩
        unfold RowsAt at hR
        rw [hnr] at hR
        have hR := hid hR
        have hb2 := hid hb2
        have hnr := hid hnr
        have hmm := @run_makeMap Tryz.prog
        go_wp2_with fail
        obtain ⟨W3, hW3⟩ : ∃ W3, W3 = w2.alloc (.map #[] 0) := ⟨_, rfl⟩
        have hM0 : W3.heap[w2.heap.size]? = some (.map #[] 0) := by rw [hW3]; exact World.alloc_heap_new _ _
        have hB0 : Below w2.heap.size w2 W3 := by rw [hW3]; exact (Below.refl _ _).alloc (Nat.le_refl _) _
        refine wp_world hW3.symm ?_
        clear hW3
        have hM0 := hid hM0; have hB0 := hid hB0
        have hnd := hid hO1.out.ok.nodup
        have hroom : nr ≤ 1000 := by have := hO1.out.ok.room; have := hnr.out; omega
        go_loopw [10, 11] (fun u j w4 => ∃ (jn : Nat) (es : Array MapEntry) (clock : Nat), u = .int .i64 (under s1.l jn) ∧ j = .int .i64 jn ∧ jn ≤ nr ∧ Hid (w4.heap[w2.heap.size]? = some (.map es clock)) ∧ Hid (KeysOf es (s1.l.take jn)) ∧ Hid (Below w2.heap.size w2 w4)) (fun _ j _ => nr - (intOf j).toNat)
        case atStart => exact ⟨0, #[], 0, rfl, rfl, Nat.zero_le _, hM0, hid (KeysOf.nil _), hB0⟩
        case round =>
          clear hM0 hB0
          obtain ⟨jn, es, clock, rfl, rfl, hjn, hM, hK, hB⟩ := hrel
          rcases Nat.lt_or_ge jn nr with hjl | hjg
          · have dj : decide ((jn : Int) < (nr : Int)) = true := decide_eq_true (by omega)
            obtain ⟨r, hr⟩ : ∃ r, s1.l[jn]? = some r := ⟨_, List.getElem?_eq_getElem (by have := hnr.out; omega)⟩
            obtain ⟨g', rfl, hcap, hrg⟩ := own_range RowV.cl RowV.cllen hnr.out (ownsRow_below hR.out hB.out) hr
            have q2 : wr.cell? ⟨g', jn * 9 + 2, none⟩ = some (.int .i64 r.seq) := hrg 2 _ rfl
            have q3 : wr.cell? ⟨g', jn * 9 + 3, none⟩ = some (.int .i64 r.id) := hrg 3 _ rfl
            have q8 : wr.cell? ⟨g', jn * 9 + 8, none⟩ = some (.int .i64 r.stage) := hrg 8 _ rfl
            have hr := hid hr
            have hrg := hid hrg
            have hgood := hid (hW1.out.rg.good r (List.mem_of_getElem? hr.out))
            cases jn with
            | zero =>
              have dj0 : decide ((0 : Int) < ((0 : Nat) : Int)) = false := by decide
              go_wp2_with fail
              go_quiet (fail)
              have hlt5 : w2.heap.size < wr.heap.size := (Array.getElem?_eq_some_iff.1 hM.out).1
              have hgl := ((ownsRow_below hR.out hB.out).lt g' rfl).2
              have hbq := below_drewN' wr nq
              obtain ⟨W5, hW5⟩ : ∃ W5, W5 = wr.drewN nq := ⟨_, rfl⟩
              rw [← hW5] at hbq ⊢
              clear hW5
              have hM5 := hid ((hbq.block _ hlt5).trans hM.out)
              have hB5 := hid (hB.out.trans (hbq.mono hB.out.size))
              have hrg5 := range_below hrg.out hgl hbq
              have v3 : W5.cell? ⟨g', (0) * 9 + 3, none⟩ = some (.int .i64 r.id) := hrg5 3 _ rfl
              have v8 : W5.cell? ⟨g', (0) * 9 + 8, none⟩ = some (.int .i64 r.stage) := hrg5 8 _ rfl
              clear hbq hrg5
              have hul := under_le s1.l (0)
              have hnr2 := hnr.out
              by_cases h1 : r.stage = 1
              · have hi0 : r.id = 0 := by rcases hgood.out with h | h | h <;> omega
                have d8 : (r.stage == 1) = true := by simpa using h1
                rw [h1] at v8
                rw [hi0] at v3
                have hu := hid (under_queued hr.out h1)
                go_wp2
                go_roundw
                case rel => exact ⟨(0) + 1, es, clock, by rw [hu.out], by go_num, by omega, hM5, hid (by rw [take_snoc hr.out]; exact hK.out.more r), hB5⟩
                case measure => simp [intOf]; omega
              · have d8 : (r.stage == 1) = false := by simpa using h1
                have hi1 := (hO1.out.ok.ids r (List.mem_of_getElem? hr.out) h1).1
                have dlt : decide (r.id < 1) = false := decide_eq_false (by omega)
                have hu := hid (under_more hr.out h1)
                have hnot := hid (hK.out.not hnd.out hr.out h1)
                have HL := run_lookup_not (P := Tryz.prog) 65 2 4 .i64 Tryz.underlying65 Tryz.underlying2 W5 w2.heap.size es clock (.bool false) (by kernel_rfl) hM5.out r.id hnot.out false
                have h1 := hid h1
                go_wp2_with (refine wpList_update_new _ rfl _ _ _ 65 rfl 2 4 .i64 Tryz.underlying65 Tryz.underlying2 w2.heap.size es clock rfl hM5.out r.id (.bool true) rfl rfl hnot.out fun w6 hb6 hg6 => ?_)
                have hb6 := hid hb6
                go_roundw
                case rel => exact ⟨(0) + 1, _, _, by rw [hu.out], by go_num, by omega, hb6, hid (by rw [take_snoc hr.out]; exact hK.out.push r h1.out _ _), hid (hB5.out.grown hg6 hB5.out.size (fun i hi => by cases hi; exact Nat.le_refl _))⟩
                case measure => simp [intOf]; omega
            | succ j' =>
              obtain ⟨r', hr'⟩ : ∃ r', s1.l[j']? = some r' := ⟨_, List.getElem?_eq_getElem (by have := hnr.out; omega)⟩
              obtain ⟨g2, hg2, _, hrg2⟩ := own_range RowV.cl RowV.cllen hnr.out (ownsRow_below hR.out hB.out) hr'
              cases hg2
              have p2 : wr.cell? ⟨g', j' * 9 + 2, none⟩ = some (.int .i64 r'.seq) := hrg2 2 _ rfl
              have hlt2 := hW1.out.rg.rise hr' hr.out
              have ds : decide (r.seq ≤ r'.seq) = false := decide_eq_false (by omega)
              have hrg2 := hid hrg2
              have dj0 : decide ((0 : Int) < ((j' + 1 : Nat) : Int)) = true := decide_eq_true (by omega)
              go_wp2_with fail
              go_quiet (fail)
              have hlt5 : w2.heap.size < wr.heap.size := (Array.getElem?_eq_some_iff.1 hM.out).1
              have hgl := ((ownsRow_below hR.out hB.out).lt g' rfl).2
              have hbq := below_drewN' wr nq
              obtain ⟨W5, hW5⟩ : ∃ W5, W5 = wr.drewN nq := ⟨_, rfl⟩
              rw [← hW5] at hbq ⊢
              clear hW5
              have hM5 := hid ((hbq.block _ hlt5).trans hM.out)
              have hB5 := hid (hB.out.trans (hbq.mono hB.out.size))
              have hrg5 := range_below hrg.out hgl hbq
              have v3 : W5.cell? ⟨g', (j'+1) * 9 + 3, none⟩ = some (.int .i64 r.id) := hrg5 3 _ rfl
              have v8 : W5.cell? ⟨g', (j'+1) * 9 + 8, none⟩ = some (.int .i64 r.stage) := hrg5 8 _ rfl
              clear hbq hrg5
              have hul := under_le s1.l (j'+1)
              have hnr2 := hnr.out
              by_cases h1 : r.stage = 1
              · have hi0 : r.id = 0 := by rcases hgood.out with h | h | h <;> omega
                have d8 : (r.stage == 1) = true := by simpa using h1
                rw [h1] at v8
                rw [hi0] at v3
                have hu := hid (under_queued hr.out h1)
                go_wp2
                go_roundw
                case rel => exact ⟨(j'+1) + 1, es, clock, by rw [hu.out], by go_num, by omega, hM5, hid (by rw [take_snoc hr.out]; exact hK.out.more r), hB5⟩
                case measure => simp [intOf]; omega
              · have d8 : (r.stage == 1) = false := by simpa using h1
                have hi1 := (hO1.out.ok.ids r (List.mem_of_getElem? hr.out) h1).1
                have dlt : decide (r.id < 1) = false := decide_eq_false (by omega)
                have hu := hid (under_more hr.out h1)
                have hnot := hid (hK.out.not hnd.out hr.out h1)
                have HL := run_lookup_not (P := Tryz.prog) 65 2 4 .i64 Tryz.underlying65 Tryz.underlying2 W5 w2.heap.size es clock (.bool false) (by kernel_rfl) hM5.out r.id hnot.out false
                have h1 := hid h1
                go_wp2_with (refine wpList_update_new _ rfl _ _ _ 65 rfl 2 4 .i64 Tryz.underlying65 Tryz.underlying2 w2.heap.size es clock rfl hM5.out r.id (.bool true) rfl rfl hnot.out fun w6 hb6 hg6 => ?_)
                have hb6 := hid hb6
                go_roundw
                case rel => exact ⟨(j'+1) + 1, _, _, by rw [hu.out], by go_num, by omega, hb6, hid (by rw [take_snoc hr.out]; exact hK.out.push r h1.out _ _), hid (hB5.out.grown hg6 hB5.out.size (fun i hi => by cases hi; exact Nat.le_refl _))⟩
                case measure => simp [intOf]; omega
          · obtain rfl : jn = nr := by omega
            have dj : decide ((jn : Int) < (jn : Int)) = false := by simp
            have hu : under s1.l jn = ((idsOf s1.l).length : Nat) := by rw [← hnr.out]; exact under_all _
            obtain ⟨u, huu⟩ : ∃ u, (idsOf s1.l).length = u := ⟨_, rfl⟩
            rw [huu] at hu
            have hwin := hO1.out.ok.under
            have hrm := hO1.out.ok.room
            rw [hW1.out.win, huu] at hwin
            rw [hW1.out.room, hnr.out] at hrm
            have e1 : decide (x0 < (u : Int)) = false := decide_eq_false (by omega)
            have e2 : decide (x1 < (jn : Int)) = false := decide_eq_false (by omega)
            have hcc := hid ((hS1.out.wrote.below (n₀ := wf.heap.size) (Nat.le_refl _) (by simp)).trans ((hb2.out.trans (hB.out.mono hb2.out.size)).mono hS1.out.size))
            have hcw := hid (hb2.out.trans (hB.out.mono hb2.out.size))
            have c0' : wr.cell? ⟨w.heap.size, 0, none⟩ = some (.int .i64 x0) := (hbx.out.below hcc.out).cell 0
            have c1' : wr.cell? ⟨w.heap.size, 1, none⟩ = some (.int .i64 x1) := (hbx.out.below hcc.out).cell 1
            have CU : Hid (Calls Tryz.prog 15 #[.pointer (some ⟨p, 0, none⟩)] wr fun e w' => e = .returned (.int .i64 u) ∧ Below wr.heap.size wr w') := hid (by have h := out_Under (hO1.out.below hcw.out); rw [hp1.out, huu] at h; exact h)
            have CL : Hid (∀ W', Below wr.heap.size wr W' → Calls Tryz.prog 12 #[.pointer (some ⟨p, 0, none⟩)] W' fun e w' => e = .returned (.int .i64 jn) ∧ W' = w') := hid fun W' hb => by
              have h := out_Len ((hO1.out.below hcw.out).below hb)
              rw [hp1.out, hnr.out] at h
              exact h
            rw [hu]
            clear hu
            go_wp2_with fail
            refine CU.out.mono ?_
            rintro e w5 ⟨rfl, hb5⟩
            go_wp2_with fail
            refine (CL.out _ hb5).mono ?_
            rintro e w6 ⟨rfl, rfl⟩
            have hb5 := hid hb5
            go_wp2
            go_roundw
            case rel => exact ⟨k + 1, s1, L1, by go_num, by omega, hp1, hn1, hid (ob_rebase2 ((hO1.out.below hcw.out).below hb5.out) hn1.out), hid (hS1.out.trans ((Stp.below hcw.out).trans (Stp.below hb5.out))), hW1, hq1⟩
            case measure => simp [intOf]; omega
      · obtain rfl : k = nl := by omega
        have dk : decide ((k : Int) < (k : Int)) = false := by simp
        have CS := hid (out_Send hLO.out hLn.out)
        obtain ⟨s1, hs1⟩ : ∃ s1, (s.start.all.fin s.seq s.id).s = s1 := ⟨_, rfl⟩
        have hD1 : Done1 s1 := by rw [← hs1]; exact all_done s.start
        have hW1 : Wn x0 x1 s1 := by rw [← hs1]; exact Wn.all (x := s.start) hLW.out
        have hcnt := again_count s1 hW1.rg.good
        rw [hLp.out, hs1] at CS
        clear hs1
        go_wp2_with fail
        refine CS.out.mono ?_
        rintro e w1 ⟨v1, v2, L1, rfl, d1⟩
        have hp1 := hid (d1.p.trans hLp.out)
        have hSw := hid (hLS.out.trans d1.stp)
        have CA := hid (out_Anew d1.ob d1.nil)
        rw [hp1.out, again_done hD1] at CA
        go_wp2_with fail
        refine CA.out.mono ?_
        clear CA CS
        rintro e w2 ⟨v3, v4, L2, rfl, d2⟩
        obtain ⟨P, hP⟩ : ∃ P, s1.l.flatMap anewP = P := ⟨_, rfl⟩
        rw [hP] at d2 hcnt
        obtain ⟨np, hnp⟩ : ∃ np, P.length = np := ⟨_, rfl⟩
        obtain ⟨ap, cp, rfl⟩ := own_slice d2.packs
        obtain ⟨ac, cc, rfl⟩ := own_slice d2.chgs
        rw [hnp]
        have hp2 := hid (d2.p.trans hp1.out)
        have D2 := hid d2
        clear d2
        go_wp2_with fail
        obtain ⟨X, hX⟩ : ∃ X, X = w2.alloc (.cells #[.slice ap np cp, .slice ac 0 cc] 34) := ⟨_, rfl⟩
        have hB2 := hid (show Blk X w2.heap.size #[.slice ap np cp, .slice ac 0 cc] 34 by rw [hX]; exact Blk.new _ _ _)
        have hbX := hid (show Below w2.heap.size w2 X by rw [hX]; exact (Below.refl _ _).alloc (Nat.le_refl _) _)
        have hOX := hid (show OB X X.heap.size L2 s1 [] [] by rw [hX]; exact ob_rebase2 (D2.out.ob.alloc _) D2.out.nil)
        have CB := hid (out_Anew hOX.out D2.out.nil)
        rw [hp2.out, again_done hD1, hP] at CB
        refine wp_calls hX.symm ?_
        have hszX : w2.heap.size < X.heap.size := hB2.out.lt
        have hnp := hid hnp
        have PA := hid (ownsRow_below D2.out.packs hbX.out)
        have CAo := hid (ownsRow_below D2.out.chgs hbX.out)
        rw [hnp.out] at PA
        have nP0 := foot_nil_not D2.out.ob D2.out.nil.1 D2.out.nil.2 D2.out.packs (.inl rfl)
        rw [hnp.out] at nP0
        have nP := hid nP0
        clear nP0
        have nC := hid (foot_nil_not D2.out.ob D2.out.nil.1 D2.out.nil.2 D2.out.chgs (.inr rfl))
        have nD : w2.heap.size ∉ L2.foot := fun hx => by have := D2.out.ob.lt _ hx; omega
        clear hX
        refine CB.out.mono ?_
        clear CB
        rintro e w3 ⟨v5, v6, L3, rfl, d3⟩
        obtain ⟨bp, kp, rfl⟩ := own_slice d3.packs
        obtain ⟨bc, kc, rfl⟩ := own_slice d3.chgs
        rw [hnp.out]
        have hp3 := hid (d3.p.trans hp2.out)
        have PA3 := hid (not_own PA.out d3.stp.wrote (fun y hy => nP.out y hy))
        have CA3 := hid (not_own CAo.out d3.stp.wrote (fun y hy => nC.out y hy))
        have hB3 := hid (hB2.out.wrote d3.stp.wrote nD)
        have D3 := hid d3
        clear d3 nD
        go_wp2_with fail
        obtain ⟨Y, hY⟩ : ∃ Y, Y = w3.alloc (.cells #[.slice bp np kp, .slice bc 0 kc] 34) := ⟨_, rfl⟩
        have hbY : Below w3.heap.size w3 Y := by rw [hY]; exact (Below.refl _ _).alloc (Nat.le_refl _) _
        have G1 := hB3.out.below hbY
        have G2 : Blk Y w3.heap.size #[.slice bp np kp, .slice bc 0 kc] 34 := by rw [hY]; exact Blk.new _ _ _
        have OY := hid (ob_rebase2 (D3.out.ob.below hbY) D3.out.nil)
        have PAY := hid (ownsRow_mono (base' := 0) (ownsRow_below PA3.out hbY) (Nat.zero_le _))
        have CAY := hid (ownsRow_mono (base' := 0) (ownsRow_below CA3.out hbY) (Nat.zero_le _))
        have PBY0 := ownsRow_mono (base' := 0) (ownsRow_below D3.out.packs hbY) (Nat.zero_le _)
        rw [hnp.out] at PBY0
        have PBY := hid PBY0
        have CBY := hid (ownsRow_mono (base' := 0) (ownsRow_below D3.out.chgs hbY) (Nat.zero_le _))
        have hbwf := hid (hbf.out.trans ((hSw.out.trans (D2.out.stp.trans ((Stp.below hbX.out).trans (D3.out.stp.trans (Stp.below hbY))))).wrote.below (n₀ := wf.heap.size) (Nat.le_refl _) (by simp)|>.mono hbf.out.size))
        refine wp_world hY.symm ?_
        clear hY
        have hnp1000 : P.length ≤ 1000 := by rw [hcnt]; have := OY.out.ok.under; have := OY.out.ok.win; omega
        have SD := hid fun (Z : World) (hZ : Below Y.heap.size Y Z) => by
          have h0 := r_SameDid P P [] [] ap ac bp bc cp cc kp kc Z (by rw [hnp.out]; exact ownsRow_below PAY.out hZ) (ownsRow_below CAY.out hZ) (by rw [hnp.out]; exact ownsRow_below PBY.out hZ) (ownsRow_below CBY.out hZ) (fun _ => rfl) (by omega) (by simp)
          rw [hnp.out] at h0
          exact h0
        have CU := hid fun (Z : World) (hZ : Below Y.heap.size Y Z) => by
          have h0 := out_Under (OY.out.below hZ)
          rw [hp3.out, ← hcnt, hnp.out] at h0
          exact h0
        have hTY := hid OY.out.tz
        clear PBY0 hcnt hbY hD1 hW1
        refine regionQ [(1000, fun w' => Blk w' w2.heap.size #[.slice ap np cp, .slice ac 0 cc] 34), (1000, fun w' => Blk w' w3.heap.size #[.slice bp np kp, .slice bc 0 kc] 34)] (by kernel_rfl) ⟨G1, G2, trivial⟩ fun KQ hKQ => ?_
        refine takeQ 0 rfl (by kernel_rfl) rfl (by kernel_rfl) fun K hK => ?_
        simp only [List.getElem_toArray, List.getElem_cons_zero, List.getElem_cons_succ]
        go_big_quiet_op
        refine hK _ ?_
        clear hK K
        refine takeQ 1 rfl (by kernel_rfl) rfl (by kernel_rfl) fun K hK => ?_
        simp only [List.getElem_toArray, List.getElem_cons_zero, List.getElem_cons_succ]
        go_big_quiet_op
        refine hK _ ?_
        clear hK K
        refine takeQ 2 rfl (by kernel_rfl) rfl (by kernel_rfl) fun K hK => ?_
        simp only [List.getElem_toArray, List.getElem_cons_zero, List.getElem_cons_succ]
        go_big_quiet_op
        refine hK _ ?_
        clear hK K
        refine takeQ 3 rfl (by kernel_rfl) rfl (by kernel_rfl) fun K hK => ?_
        simp only [List.getElem_toArray, List.getElem_cons_zero, List.getElem_cons_succ]
        go_big_quiet_op
        refine hK _ ?_
        clear hK K
        refine takeQ 4 rfl (by kernel_rfl) rfl (by kernel_rfl) fun K hK => ?_
        simp only [List.getElem_toArray, List.getElem_cons_zero, List.getElem_cons_succ]
        go_big_quiet_op
        refine hK _ ?_
        clear hK K
        refine takeQ 5 rfl (by kernel_rfl) rfl (by kernel_rfl) fun K hK => ?_
        simp only [List.getElem_toArray, List.getElem_cons_zero, List.getElem_cons_succ]
        go_big_quiet_op
        refine hK _ ?_
        clear hK K
        refine takeQ 6 rfl (by kernel_rfl) rfl (by kernel_rfl) fun K hK => ?_
        simp only [List.getElem_toArray, List.getElem_cons_zero, List.getElem_cons_succ]
        go_big_quiet_op
        refine hK _ ?_
        clear hK K
        refine loadQ 7 rfl (by kernel_rfl) (by kernel_rfl) rfl rfl 0 rfl (by kernel_rfl) _ (fun w' hf => run_load_blk hf 34 Tryz.underlying34 rfl (by kernel_rfl)) ?_
        simp only [Act.put, List.getElem_toArray, List.getElem_cons_zero, List.getElem_cons_succ, List.setIfInBounds_toArray, List.set_cons_zero, List.set_cons_succ]
        refine loadQ 8 rfl (by kernel_rfl) (by kernel_rfl) rfl rfl 1 rfl (by kernel_rfl) _ (fun w' hf => run_load_blk hf 34 Tryz.underlying34 rfl (by kernel_rfl)) ?_
        simp only [Act.put, List.getElem_toArray, List.getElem_cons_zero, List.getElem_cons_succ, List.setIfInBounds_toArray, List.set_cons_zero, List.set_cons_succ]
        refine stepQ 9 rfl (by kernel_rfl) (by decide) (by kernel_rfl) fun K hK => ?_
        simp only [List.getElem_toArray, List.getElem_cons_zero, List.getElem_cons_succ]
        go_simp
        refine (SD.out _ (Below.refl _ _).drew).mono ?_
        rintro e w4 ⟨⟨b, rfl, hbt⟩, hb4⟩
        obtain rfl := hbt rfl rfl
        have hb4 := (Below.refl Y.heap.size Y).drew.trans hb4
        refine hK _ _ ⟨⟨fun _ => G1.below hb4, fun _ => G2.below hb4, trivial⟩, ?_⟩
        clear hK K hbt
        try simp only [Act.put, List.getElem_toArray, List.getElem_cons_zero, List.getElem_cons_succ, List.setIfInBounds_toArray, List.set_cons_zero, List.set_cons_succ]
        refine takeQ 10 rfl (by kernel_rfl) rfl (by kernel_rfl) fun K hK => ?_
        simp only [List.getElem_toArray, List.getElem_cons_zero, List.getElem_cons_succ]
        go_big_quiet_op
        refine hK _ ?_
        clear hK K
        refine takeQ 11 rfl (by kernel_rfl) rfl (by kernel_rfl) fun K hK => ?_
        simp only [List.getElem_toArray, List.getElem_cons_zero, List.getElem_cons_succ]
        go_big_quiet_op
        refine hK _ ?_
        clear hK K
        refine takeQ 12 rfl (by kernel_rfl) rfl (by kernel_rfl) fun K hK => ?_
        simp only [List.getElem_toArray, List.getElem_cons_zero, List.getElem_cons_succ]
        go_big_quiet_op
        refine hK _ ?_
        clear hK K
        refine loadQ 13 rfl (by kernel_rfl) (by kernel_rfl) rfl rfl 0 rfl (by kernel_rfl) _ (fun w' hf => by (have k1 := hf.cell 1; simp at k1; go_simp <;> with_reducible rfl)) ?_
        simp only [Act.put, List.getElem_toArray, List.getElem_cons_zero, List.getElem_cons_succ, List.setIfInBounds_toArray, List.set_cons_zero, List.set_cons_succ]
        refine takeQ 14 rfl (by kernel_rfl) rfl (by kernel_rfl) fun K hK => ?_
        simp only [List.getElem_toArray, List.getElem_cons_zero, List.getElem_cons_succ]
        go_big_quiet_op
        refine hK _ ?_
        clear hK K
        refine takeQ 15 rfl (by kernel_rfl) rfl (by kernel_rfl) fun K hK => ?_
        simp only [List.getElem_toArray, List.getElem_cons_zero, List.getElem_cons_succ]
        go_big_quiet_op
        refine hK _ ?_
        clear hK K
        refine takeQ 16 rfl (by kernel_rfl) rfl (by kernel_rfl) fun K hK => ?_
        simp only [List.getElem_toArray, List.getElem_cons_zero, List.getElem_cons_succ]
        go_big_quiet_op
        refine hK _ ?_
        clear hK K
        refine takeQ 17 rfl (by kernel_rfl) rfl (by kernel_rfl) fun K hK => ?_
        simp only [List.getElem_toArray, List.getElem_cons_zero, List.getElem_cons_succ]
        go_big_quiet_op
        refine hK _ ?_
        clear hK K
        refine takeQ 18 rfl (by kernel_rfl) rfl (by kernel_rfl) fun K hK => ?_
        simp only [List.getElem_toArray, List.getElem_cons_zero, List.getElem_cons_succ]
        go_big_quiet_op
        refine hK _ ?_
        clear hK K
        refine loadQ 19 rfl (by kernel_rfl) (by kernel_rfl) rfl rfl 0 rfl (by kernel_rfl) _ (fun w' hf => by (have k1 := hf.cell 0; simp at k1; go_simp <;> with_reducible rfl)) ?_
        simp only [Act.put, List.getElem_toArray, List.getElem_cons_zero, List.getElem_cons_succ, List.setIfInBounds_toArray, List.set_cons_zero, List.set_cons_succ]
        refine takeQ 20 rfl (by kernel_rfl) rfl (by kernel_rfl) fun K hK => ?_
        simp only [List.getElem_toArray, List.getElem_cons_zero, List.getElem_cons_succ]
        go_big_quiet_op
        refine hK _ ?_
        clear hK K
        refine takeQ 21 rfl (by kernel_rfl) rfl (by kernel_rfl) fun K hK => ?_
        simp only [List.getElem_toArray, List.getElem_cons_zero, List.getElem_cons_succ]
        go_big_quiet_op
        refine hK _ ?_
        clear hK K
        have hb4 := hid hb4
        refine stepQ 22 rfl (by kernel_rfl) (by decide) (by kernel_rfl) fun K hK => ?_
        simp only [List.getElem_toArray, List.getElem_cons_zero, List.getElem_cons_succ]
        go_simp
        refine (CU.out _ hb4.out).mono ?_
        rintro e w5 ⟨rfl, hb5⟩
        have hb5 := hid (hb4.out.trans (hb5.mono hb4.out.size))
        refine hK _ _ ⟨⟨fun _ => G1.below hb5.out, fun _ => G2.below hb5.out, trivial⟩, ?_⟩
        clear hK K
        try simp only [Act.put, List.getElem_toArray, List.getElem_cons_zero, List.getElem_cons_succ, List.setIfInBounds_toArray, List.set_cons_zero, List.set_cons_succ]
        refine takeQ 23 rfl (by kernel_rfl) rfl (by kernel_rfl) fun K hK => ?_
        simp only [List.getElem_toArray, List.getElem_cons_zero, List.getElem_cons_succ]
        go_big_quiet_op
        refine hK _ ?_
        clear hK K
        refine takeQ 24 rfl (by kernel_rfl) rfl (by kernel_rfl) fun K hK => ?_
        simp only [List.getElem_toArray, List.getElem_cons_zero, List.getElem_cons_succ]
        go_big_quiet_op
        refine hK _ ?_
        clear hK K
        refine takeQ 25 rfl (by kernel_rfl) rfl (by kernel_rfl) fun K hK => ?_
        simp only [List.getElem_toArray, List.getElem_cons_zero, List.getElem_cons_succ]
        go_big_quiet_op
        refine hK _ ?_
        clear hK K
        refine stepQ 26 rfl (by kernel_rfl) (by decide) (by kernel_rfl) fun K hK => ?_
        simp only [List.getElem_toArray, List.getElem_cons_zero, List.getElem_cons_succ]
        go_simp
        refine (KH.out _ (hTY.out.below hb5.out)).mono ?_
        rintro e w6 ⟨rfl, hb6⟩
        have hb6 := hid (hb5.out.trans (hb6.mono hb5.out.size))
        refine hK _ _ ⟨⟨fun _ => G1.below hb6.out, fun _ => G2.below hb6.out, trivial⟩, ?_⟩
        clear hK K
        try simp only [Act.put, List.getElem_toArray, List.getElem_cons_zero, List.getElem_cons_succ, List.setIfInBounds_toArray, List.set_cons_zero, List.set_cons_succ]
        refine takeQ 27 rfl (by kernel_rfl) rfl (by kernel_rfl) fun K hK => ?_
        simp only [List.getElem_toArray, List.getElem_cons_zero, List.getElem_cons_succ]
        go_big_quiet_op
        refine hK _ ?_
        clear hK K
        refine takeQ 28 rfl (by kernel_rfl) rfl (by kernel_rfl) fun K hK => ?_
        simp only [List.getElem_toArray, List.getElem_cons_zero, List.getElem_cons_succ]
        go_big_quiet_op
        refine hK _ ?_
        clear hK K
        refine doneQ (by kernel_rfl) (hKQ.out _ _ ?_)
        clear hKQ KQ
        go_wp2
        go_ret
        exact ⟨rfl, hbwf.out.trans (hb6.out.mono hbwf.out.size)⟩
end Go.Proofs.YtodbdojjllabmaaGreatDoor
