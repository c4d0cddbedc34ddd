/- The walk of OutboxTurns. -/
import Derived.Test.YtodbdojjllabmaaGreatDoorPk29
namespace Go.Proofs.YtodbdojjllabmaaGreatDoor
open Go.RowKit Go.Shelf

set_option maxRecDepth 100000 in
set_option maxHeartbeats 4000000 in
theorem walk_OutboxTurns (win : Int) (aq : Option Addr) (nq cq : Nat) (qs : List Bool) (al : Option Addr) (nl cl : Nat) (ls : List Bool) (w : World) (hq : RowAt w aq nq cq (bls qs)) (hls : RowAt w al nl cl (bls ls)) (hT : TzAt w) :
    Calls Tryz.prog 4 #[.int .i64 win, .slice aq nq cq, .slice al nl cl] w fun e w' => e = .returned (.bool true) ∧ Below w.heap.size w w' := by
  have KH := hid known_holds
  by_cases h0 : 1 ≤ win ∧ win ≤ 100 ∧ nq ≤ 60 ∧ nl ≤ 300
  · obtain ⟨h1, h2, h3, h4⟩ := h0
    have hnq := hid hq.blen
    have hnl := hid hls.blen
    have h60 : qs.length ≤ 60 := by have := hnq.out; omega
    have d1 : decide (win < 1) = false := decide_eq_false (by omega)
    have d2 : decide (100 < win) = false := decide_eq_false (by omega)
    have d3 : decide ((60 : Int) < (nq : Int)) = false := decide_eq_false (by omega)
    have d4 : decide ((300 : Int) < (nl : Int)) = false := decide_eq_false (by omega)
    have CN := hid (out_New win 100 [99] w hT ⟨h1, h2⟩ (by decide) (by decide) kM0)
    go_enter Tryz.func4, Tryz.ntmps4
    go_wp2_with fail
    refine CN.out.mono ?_
    rintro e w0 ⟨L0, rfl, hO0, hn0, hS0⟩
    obtain ⟨p, hp⟩ : ∃ p, L0.p = p := ⟨_, rfl⟩
    rw [hp]
    have hO0 := hid hO0
    have hS0 := hid hS0
    clear CN
    go_wp2_with fail
    go_loopw [9] (fun i wr => ∃ (k : Nat) (L : Lay), i = .int .i64 k ∧ k ≤ nq ∧ Hid (L.p = p) ∧ Hid (L.vp = .slice none 0 0 ∧ L.vc = .slice none 0 0) ∧ Hid (OB wr wr.heap.size L (tPut qs win k) [] []) ∧ Hid (Stp [] L.foot w wr)) (fun i _ => nq - (intOf i).toNat)
    case atStart => exact ⟨0, L0, rfl, Nat.zero_le _, hid hp, hid hn0, hO0, hS0⟩
    case round =>
      obtain ⟨k, L, rfl, hk, hLp, hLn, hLO, hLS⟩ := hrel
      rcases Nat.lt_or_ge k nq with hlt | hge
      · have dk : decide ((k : Int) < (nq : Int)) = true := decide_eq_true (by omega)
        obtain ⟨b, hb⟩ : ∃ b, qs[k]? = some b := ⟨_, List.getElem?_eq_getElem (by have := hnq.out; omega)⟩
        obtain ⟨bq, oq, haq, hcq⟩ := (hq.below (hLS.out.wrote.below (Nat.le_refl _) (by simp))).bool hb
        subst haq
        obtain ⟨ch, hch⟩ : ∃ ch, UInt8.ofNat (65 + k) = ch := ⟨_, rfl⟩
        have hstr := tStr k (by omega) ch hch wr
        cases b with
        | false =>
          go_wp2_with fail
          have CP := out_Put (hLO.out.alloc (.cells #[.int .u8 (65 + (k : Int))] 5)) hLn.out [97] [ch] 1 false (by decide) (asc 97 (by decide)) (tMay qs win k (by omega) ch 1 (by decide)) (by simp [tPut]; omega) (by simp [tPut]; omega)
          have tp : (tPut qs win k).put ((tPut qs win k).row [97] [ch] 1 false) = tPut qs win (k + 1) := by rw [← hch]; exact t_put hb
          rw [hLp.out, tp] at CP
          refine CP.mono ?_
          clear CP tp
          rintro e w1 ⟨vp, vc, L1, rfl, d1⟩
          obtain ⟨ap, cp, rfl⟩ := own_slice d1.packs
          obtain ⟨ac, cc, rfl⟩ := own_slice d1.chgs
          have D1 := hid d1
          clear d1
          go_wp2_with fail
          go_roundw
          case rel => exact ⟨k + 1, L1, by go_num, by omega, hid (D1.out.p.trans hLp.out), hid D1.out.nil, hid (OB.rebase2 (D1.out.ob.alloc _) D1.out.nil), hid ((hLS.out.trans ((Stp.below ((Below.refl _ _).alloc (Nat.le_refl _) _)).trans D1.out.stp)).trans (Stp.below ((Below.refl _ _).alloc (Nat.le_refl _) _)))⟩
          case measure => simp [intOf]; omega
        | true =>
          go_wp2_with fail
          have CP := out_Put (hLO.out.alloc (.cells #[.int .u8 (65 + (k : Int))] 5)) hLn.out [97] [ch] 2 false (by decide) (asc 97 (by decide)) (tMay qs win k (by omega) ch 2 (by decide)) (by simp [tPut]; omega) (by simp [tPut]; omega)
          have tp : (tPut qs win k).put ((tPut qs win k).row [97] [ch] 2 false) = tPut qs win (k + 1) := by rw [← hch]; exact t_put hb
          rw [hLp.out, tp] at CP
          refine CP.mono ?_
          clear CP tp
          rintro e w1 ⟨vp, vc, L1, rfl, d1⟩
          obtain ⟨ap, cp, rfl⟩ := own_slice d1.packs
          obtain ⟨ac, cc, rfl⟩ := own_slice d1.chgs
          have D1 := hid d1
          clear d1
          go_wp2_with fail
          go_roundw
          case rel => exact ⟨k + 1, L1, by go_num, by omega, hid (D1.out.p.trans hLp.out), hid D1.out.nil, hid (OB.rebase2 (D1.out.ob.alloc _) D1.out.nil), hid ((hLS.out.trans ((Stp.below ((Below.refl _ _).alloc (Nat.le_refl _) _)).trans D1.out.stp)).trans (Stp.below ((Below.refl _ _).alloc (Nat.le_refl _) _)))⟩
          case measure => simp [intOf]; omega
      · obtain rfl : nq = k := by omega
        have dk : decide ((nq : Int) < (nq : Int)) = false := by simp
        go_wp2_with fail
        have CS := out_Send hLO.out hLn.out
        rw [hLp.out] at CS
        have hst : tPut qs win nq = tOS qs win [] 0 := by rw [hnq.out]; exact t_put_all qs win
        obtain ⟨U0, m0, N0, ps0, cs0, ha, hP0, hI0, hL0, hF0⟩ := T_send h60 h1
        rw [hst, ha] at CS
        dsimp only [SS.fin] at CS
        clear ha hst
        have hI0 := hid hI0
        have hF0 := hid hF0
        have hP0 := hid hP0
        refine CS.mono ?_
        clear CS
        rintro e w2 ⟨vp2, vc2, L2, rfl, d2⟩
        obtain ⟨ap2, cp2, rfl⟩ := own_slice d2.packs
        obtain ⟨ac2, cc2, rfl⟩ := own_slice d2.chgs
        generalize hcs : cs0 ++ _ = cs1 at *
        clear hcs
        generalize hn2 : cs1.length = n2 at *
        have D2 := hid d2
        clear d2
        go_wp2_with fail
        obtain ⟨db, hdb⟩ : ∃ db, w2.heap.size = db := ⟨_, rfl⟩
        have LP0 : Hid (Lp w (w2.alloc (.cells #[.slice ap2 ps0.length cp2, .slice ac2 n2 cc2] 34)) p db qs win 0 0 (.slice ap2 ps0.length cp2) U0 m0 N0 ps0 L2) := by
          have hlt := D2.out.ob.lt
          refine ⟨D2.out.p.trans hLp.out, D2.out.nil, OB.rebase2 (D2.out.ob.alloc _) D2.out.nil, ?_, ⟨_, Blk.new_at _ _ _ _ hdb, rfl⟩, fun hx => by have := hlt _ hx; omega, ?_, hP0.out, hI0.out, hF0.out, by omega⟩
          · have h := (hLS.out.trans D2.out.stp).trans (Stp.below (F := L2.foot) ((Below.refl _ w2).alloc (Nat.le_refl _) (.cells #[.slice ap2 ps0.length cp2, .slice ac2 n2 cc2] 34)))
            refine ⟨h.wrote, fun x hx => ?_⟩
            rcases List.mem_cons.1 hx with rfl | hx
            · have := (hLS.out.trans D2.out.stp).size; exact .inr (by omega)
            · exact h.sub x hx
          · have hw := D2.out.waits (B := w.heap.size) hLS.out.size db (fun hx => by have := blk_lt D2.out.packs hx; omega)
            exact hw.step (Stp.below ((Below.refl _ w2).alloc (Nat.le_refl _) _))
        rw [hdb]
        obtain ⟨W2, hW2⟩ : ∃ W2, w2.alloc (.cells #[.slice ap2 ps0.length cp2, .slice ac2 n2 cc2] 34) = W2 := ⟨_, rfl⟩
        rw [hW2] at LP0 ⊢
        clear hW2 D2 hI0 hF0 hP0 hLO hLS hLn hLp hdb
        go_loopw [14, 15, 16, 17] (fun f v sd t wr => ∃ (k s : Nat) (U : List (Nat × Bool)) (m : Nat) (E : List (Nat × Bool)) (ps : List PackV) (L : Lay) (v' : Value), f = .int .i64 0 ∧ v' = v ∧ sd = .int .i64 s ∧ t = .int .i64 k ∧ Hid (Lp w wr p db qs win k s v' U m E ps L)) (fun _ _ _ t _ => 600 - (intOf t).toNat)
        case atStart => exact ⟨0, 0, U0, m0, N0, ps0, L2, _, rfl, rfl, rfl, rfl, LP0⟩
        case round =>
          obtain ⟨k, s, U, m, E, ps, L, v, rfl, rfl, rfl, rfl, LP⟩ := hrel
          have hk := LP.out.few.lt
          have dk : decide ((k : Int) < 600) = true := decide_eq_true (by omega)
          obtain ⟨l, hl⟩ : ∃ l, (tL qs U m).length = l := ⟨_, rfl⟩
          have CL : Hid (∀ W', Below wr.heap.size wr W' → Calls Tryz.prog 12 #[.pointer (some ⟨p, 0, none⟩)] W' fun e w' => e = .returned (.int .i64 l) ∧ W' = w') := hid fun W' hb => by
            have h := out_Len (LP.out.ob.below hb)
            rw [LP.out.p] at h
            rw [← hl]; exact h
          have CU : Hid (∀ W', Below wr.heap.size wr W' → Calls Tryz.prog 15 #[.pointer (some ⟨p, 0, none⟩)] W' fun e w' => e = .returned (.int .i64 U.length) ∧ Below W'.heap.size W' w') := hid fun W' hb => by
            have h := out_Under (LP.out.ob.below hb)
            rw [LP.out.p, show (idsOf (tOS qs win U m).l).length = U.length by rw [show (tOS qs win U m).l = tL qs U m from rfl, tL_ids, List.length_map]] at h
            exact h
          go_wp2_with fail
          refine (CL.out _ (Below.refl _ _)).mono ?_
          rintro e w3 ⟨rfl, rfl⟩
          rcases Nat.eq_zero_or_pos l with hl0 | hl0
          · subst hl0
            obtain rfl : s = nq := by rw [hnq.out]; exact LP.out.ti.none h1 hl
            go_wp2_with fail
            refine (CL.out _ (Below.refl _ _)).mono ?_
            rintro e w3 ⟨rfl, rfl⟩
            go_wp2_with fail
            refine (KH.out _ LP.out.ob.tz).mono ?_
            rintro e w8 ⟨rfl, hb8⟩
            go_wp2
            go_ret
            exact ⟨rfl, (LP.out.stp.wrote.below (Nat.le_refl _) (by simp)).trans (hb8.mono LP.out.stp.size)⟩
          · have dl : decide ((0 : Int) < (l : Int)) = true := decide_eq_true (by omega)
            have hU := LP.out.ti.some h1 (by rw [hl]; exact hl0)
            have hmin := LP.out.ti.min
            rw [hl] at hmin
            obtain ⟨u, hu⟩ : ∃ u, U.length = u := ⟨_, rfl⟩
            have hwin := LP.out.ti.t.win
            rw [hu] at CU hmin hwin
            have du : decide (win < (u : Int)) = false := decide_eq_false (by omega)
            have hl := hid hl
            go_wp2_with fail
            refine (CU.out _ (Below.refl _ _)).mono ?_
            rintro e w4 ⟨rfl, hb4⟩
            go_wp2_with fail
            refine (CU.out _ hb4).mono ?_
            rintro e w5 ⟨rfl, hb5⟩
            have hb5 := hb4.trans (hb5.mono hb4.size)
            go_wp2_with fail
            refine (CL.out _ hb5).mono ?_
            rintro e w6 ⟨rfl, rfl⟩
            have hpk := LP.out.pk
            cases E with
            | nil =>
              cases ps with
              | cons p0 ps => exact hpk.elim
              | nil =>
              obtain ⟨av, cv, hvs⟩ := LP.out.wt.slice
              rw [List.length_nil] at hvs
              subst hvs
              have CA := out_Anew (LP.out.ob.below hb5) LP.out.nil
              obtain ⟨U', m', N', ps', cs', hX, hN, hI, hpl, hF⟩ := T_anew h60 LP.out.ti hU
              rw [LP.out.p] at CA
              rw [hX] at CA
              dsimp only [SS.fin] at CA
              clear hX
              have hN := hid hN
              have hI := hid hI
              have hF := hid hF
              go_wp2_with fail
              refine CA.mono ?_
              clear CA
              rintro e w7 ⟨vp7, vc7, L7, rfl, d7⟩
              obtain ⟨ap7, cp7, rfl⟩ := own_slice d7.packs
              obtain ⟨ac7, cc7, rfl⟩ := own_slice d7.chgs
              generalize hcs7 : cs' ++ _ = cs7 at *
              clear hcs7
              generalize hn7 : cs7.length = n7 at *
              have D7 := hid d7
              have C7 := hid (LP.out.call hb5 d7)
              obtain ⟨cb, hbx, hbs⟩ := C7.out.box
              have hdn : db ∉ blk (.slice ap7 ps'.length cp7) := fun hx => block_not_row hbx (by decide) d7.packs (mem_blk.1 hx).symm
              have hbx := hid hbx
              have hbs := hid hbs
              have hdn := hid hdn
              have hn7 := hid hn7
              clear d7
              go_wp2_with (
                  (refine wpList_plain rfl fun _ hK => wp_store_whole 34 34 _ _ rfl 2 (fun w => by kernel_rfl) db cb #[.slice ap7 ps'.length cp7, .slice ac7 n7 cc7] rfl rfl hbx.out rfl hbs.out (by simp [Value.oneCell']) fun w8 hb8 hw8 => hK _ _ ?_
                   have e0 : w8.cell? ⟨db, 0, none⟩ = some (.slice ap7 ps'.length cp7) := hb8.cell 0
                   have hb8 := hid hb8
                   have hw8 := hid hw8))

              go_roundw
              case rel => exact ⟨k + 1, s, U', m', N', ps', L7, _, rfl, rfl, by go_num, by go_num, hid (LP.out.done hb5 D7.out (G := [db]) hw8.out (fun x hx => by simp at hx; subst hx; exact ⟨C7.out.dbn, LP.out.dbge⟩) ⟨_, hb8.out, rfl⟩ hT (((D7.out.waits (B := w.heap.size) (Nat.le_trans LP.out.below.size hb5.size) db hdn.out)).step (F' := db :: L7.foot) ⟨hw8.out.sub (by simp), fun x hx => .inl hx⟩) hN.out hI.out (hF.out _ LP.out.few) (by omega))⟩
              case measure => simp [intOf]; omega
            | cons e E =>
              cases ps with
              | nil => exact hpk.elim
              | cons p0 ps =>
              obtain ⟨j, b⟩ := e
              obtain ⟨hpk0, hpks⟩ := hpk
              obtain ⟨g, off, cap, ha⟩ : ∃ g off cap, WAdr wr w.heap.size (db :: L.foot) v (p0 :: ps).length ((p0 :: ps).flatMap PackV.cells) g off cap := by
                rcases LP.out.wt with ⟨_, h, _⟩ | h
                · simp at h
                · exact h
              have hv := ha.val
              subst hv
              have hld := hid <| (ha.step (Stp.below hb5)).range (by simp) p0.cells rfl (fun i hi => by rw [List.flatMap_cons, List.getElem?_append_left (by simpa [PackV.cells] using hi)])
              obtain ⟨off', htl, ht⟩ := ha.tail (by simp)
              rw [List.flatMap_cons, show (p0.cells ++ ps.flatMap PackV.cells).drop 24 = ps.flatMap PackV.cells from List.drop_left' rfl] at ht
              simp only [List.length_cons, Nat.add_sub_cancel] at ht htl
              have ht := hid ht
              clear ha
              have hpop := LP.out.ti.pop
              have hUj := LP.out.ti.t.lt _ hpop.2.2.2.1
              have hmq := LP.out.ti.t.m_le
              have hsm := LP.out.ti.le
              have hlsr := hid (hls.below LP.out.below)
              cases b with
              | true =>
                have hp0 : p0 = pubrel ((j : Int) + 1) := hpk0
                subst hp0
                rw [if_neg (by simp)] at hpop
                obtain ⟨-, hti, hjlt, hjU, hnE, h2q⟩ := hpop
                have hti := hid hti
                have hjU := hid hjU
                have hnE := hid hnE
                have h2q := hid h2q
                have h2t := hid (show tQ qs j = 2 from h2q.out (by simp))
                rcases Nat.lt_or_ge k nl with hkl | hkl
                · have dkl : decide ((k : Int) < (nl : Int)) = true := decide_eq_true (by omega)
                  obtain ⟨x, hx⟩ : ∃ x, ls[k]? = some x := ⟨_, List.getElem?_eq_getElem (by have := hnl.out; omega)⟩
                  obtain ⟨bl, ol, hal, -⟩ := hlsr.out.bool hx
                  subst hal
                  have hx := hid hx
                  cases x with
                  | true =>
                    go_wp2_with (first
                      | (refine wpList_load_mid rfl 45 _ rfl g off rfl (PackV.cells (pubrel ((j:Int)+1))) _ hld.out Tryz.underlying45 rfl (by kernel_rfl) ?_)
                      | (refine wpList_plain rfl fun _ hK => wp_store_whole 45 45 _ _ rfl 24 (fun w => by kernel_rfl) w5.heap.size _ (PackV.cells (pubrel ((j:Int)+1))).toArray rfl rfl (Blk.new w5 _ _) rfl rfl (PackV.one (pubrel ((j:Int)+1))) fun w6 hb6 hw6 => hK _ _ ?_
                         have c0 : w6.cell? ⟨w5.heap.size, 0, none⟩ = some (.int .i64 6) := hb6.cell 0
                         have c3 : w6.cell? ⟨w5.heap.size, 3, none⟩ = some (.int .i64 0) := (hb6.cell 3).trans (rfl)
                         have c5 : w6.cell? ⟨w5.heap.size, 5, none⟩ = some (.string ⟨#[]⟩) := (hb6.cell 5).trans (rfl)
                         have c6 : w6.cell? ⟨w5.heap.size, 6, none⟩ = some (.int .i64 ((j:Int)+1)) := hb6.cell 6
                         have hb6 : Hid (Below wr.heap.size wr w6) := hid (hb5.trans ((((Below.refl _ w5).alloc (Nat.le_refl _) _).trans (hw6.below (by simp) (by simp))).mono hb5.size))
                         clear hw6
                         have hlc:=(hlsr.out.below hb6.out).boolAt hx.out))
                    go_roundw
                    case rel => exact ⟨k + 1, s, U, m, E, ps, L, _, rfl, rfl, by go_num, by go_num, hid (LP.out.lost hb6.out ht.out hti.out (by omega))⟩
                    case measure => simp [intOf]; omega
                  | false =>
                    go_wp2_with (first
                      | (refine wpList_load_mid rfl 45 _ rfl g off rfl (PackV.cells (pubrel ((j:Int)+1))) _ hld.out Tryz.underlying45 rfl (by kernel_rfl) ?_)
                      | (refine wpList_plain rfl fun _ hK => wp_store_whole 45 45 _ _ rfl 24 (fun w => by kernel_rfl) w5.heap.size _ (PackV.cells (pubrel ((j:Int)+1))).toArray rfl rfl (Blk.new w5 _ _) rfl rfl (PackV.one (pubrel ((j:Int)+1))) fun w6 hb6 hw6 => hK _ _ ?_
                         have c0 : w6.cell? ⟨w5.heap.size, 0, none⟩ = some (.int .i64 6) := hb6.cell 0
                         have c3 : w6.cell? ⟨w5.heap.size, 3, none⟩ = some (.int .i64 0) := (hb6.cell 3).trans (rfl)
                         have c5 : w6.cell? ⟨w5.heap.size, 5, none⟩ = some (.string ⟨#[]⟩) := (hb6.cell 5).trans (rfl)
                         have c6 : w6.cell? ⟨w5.heap.size, 6, none⟩ = some (.int .i64 ((j:Int)+1)) := hb6.cell 6
                         have hb6 : Hid (Below wr.heap.size wr w6) := hid (hb5.trans ((((Below.refl _ w5).alloc (Nat.le_refl _) _).trans (hw6.below (by simp) (by simp))).mono hb5.size))
                         clear hw6
                         have hlc:=(hlsr.out.below hb6.out).boolAt hx.out))
                    have CH := out_Hear7 (LP.out.ob.below hb6.out) LP.out.nil ((j : Int) + 1) (by omega)
                    obtain ⟨U', m', N', ps', cs', hX, hN, hI, hpl, hF⟩ := (T_comp h60 hti.out hjlt hnE.out hjU.out h2t.out)
                    rw [LP.out.p, hX] at CH
                    dsimp only [SS.fin] at CH
                    clear hX
                    have hN := hid hN
                    have hI := hid hI
                    have hF := hid hF
                    refine CH.mono ?_
                    clear CH
                    rintro e w7 ⟨vp7, vc7, L7, rfl, d7⟩
                    obtain ⟨ap7, cp7, rfl⟩ := own_slice d7.packs
                    obtain ⟨ac7, cc7, rfl⟩ := own_slice d7.chgs
                    generalize hcs7 : cs' ++ _ = cs7 at *
                    clear hcs7
                    generalize hn7 : cs7.length = n7 at *
                    have D7 := hid d7
                    have C7 := hid (LP.out.call hb6.out d7)
                    obtain ⟨cb, hbx, hbs⟩ := C7.out.box
                    have hdn : db ∉ blk (.slice ap7 ps'.length cp7) := fun hx => block_not_row hbx (by decide) d7.packs (mem_blk.1 hx).symm
                    have hbx := hid hbx
                    have hbs := hid hbs
                    have hdn := hid hdn
                    have hn7 := hid hn7
                    clear d7
                    have AP := hid fun (w8 : World) (c : Array Value) (h8 : Blk w8 db c 34) (hw : Wrote [db] w7 w8) => LP.out.app hb6.out D7.out hdn.out h8 hw ht.out hk hpl
                    have hpl := hid hpl
                    go_wp2_with (first
                      | (refine wpList_plain rfl fun _ hK => wp_store_whole 34 34 _ _ rfl 2 (fun w => by kernel_rfl) db cb #[.slice ap7 ps'.length cp7, .slice ac7 n7 cc7] rfl rfl hbx.out rfl hbs.out (by simp [Value.oneCell']) fun w8 hb8 hw8 => hK _ _ ?_
                         have e0 : w8.cell? ⟨db, 0, none⟩ = some (.slice ap7 ps'.length cp7) := hb8.cell 0
                         have hb8 := hid hb8
                         have hw8 := hid hw8)
                      | (at_builtin
                         refine append_waits rfl _ _ rfl rfl (AP.out _ _ hb8.out hw8.out).1 (AP.out _ _ hb8.out hw8.out).2.1 (AP.out _ _ hb8.out hw8.out).2.2.1 (AP.out _ _ hb8.out hw8.out).2.2.2.1 (AP.out _ _ hb8.out hw8.out).2.2.2.2.1 (AP.out _ _ hb8.out hw8.out).2.2.2.2.2 rfl rfl fun v9 w9 G9 ha9 hw9 hg9 => ?_
                         have ha9 := hid ha9
                         have hw9 := hid hw9
                         have hg9 := hid hg9))

                    go_roundw
                    case rel => exact ⟨k + 1, s, U', m', E ++ N', ps ++ ps', L7, v9, rfl, rfl, by go_num, by go_num, hid (LP.out.done hb6.out D7.out (G := db :: G9) ((hw8.out.sub (by simp)).trans (hw9.out.sub (fun x hx => by simp [hx]))) (fun x hx => by
                      rcases List.mem_cons.1 hx with rfl | hx
                      · exact ⟨C7.out.dbn, LP.out.dbge⟩
                      · exact ⟨fun h => (hg9.out x hx).1 (by simp [h]), (hg9.out x hx).2⟩) ⟨_, hb8.out.wrote hw9.out (fun hx => (hg9.out db hx).1 (by simp)), rfl⟩ hT (by rw [List.length_append, List.flatMap_append]; exact ha9.out) (PacksOf.append hpks hN.out) hI.out (hF.out _ LP.out.few) (by have h1 := LP.out.len; have h2 := hpl.out; simp only [List.length_append, List.length_cons] at h1 ⊢; omega))⟩
                    case measure => simp [intOf]; omega
                · have dkl : decide ((k : Int) < (nl : Int)) = false := decide_eq_false (by omega)
                  have hkl2 : ¬ (k < nl) := by omega
                  go_wp2_with (first
                    | (refine wpList_load_mid rfl 45 _ rfl g off rfl (PackV.cells (pubrel ((j:Int)+1))) _ hld.out Tryz.underlying45 rfl (by kernel_rfl) ?_)
                    | (refine wpList_plain rfl fun _ hK => wp_store_whole 45 45 _ _ rfl 24 (fun w => by kernel_rfl) w5.heap.size _ (PackV.cells (pubrel ((j:Int)+1))).toArray rfl rfl (Blk.new w5 _ _) rfl rfl (PackV.one (pubrel ((j:Int)+1))) fun w6 hb6 hw6 => hK _ _ ?_
                       have c0 : w6.cell? ⟨w5.heap.size, 0, none⟩ = some (.int .i64 6) := hb6.cell 0
                       have c3 : w6.cell? ⟨w5.heap.size, 3, none⟩ = some (.int .i64 0) := (hb6.cell 3).trans (rfl)
                       have c5 : w6.cell? ⟨w5.heap.size, 5, none⟩ = some (.string ⟨#[]⟩) := (hb6.cell 5).trans (rfl)
                       have c6 : w6.cell? ⟨w5.heap.size, 6, none⟩ = some (.int .i64 ((j:Int)+1)) := hb6.cell 6
                       have hb6 : Hid (Below wr.heap.size wr w6) := hid (hb5.trans ((((Below.refl _ w5).alloc (Nat.le_refl _) _).trans (hw6.below (by simp) (by simp))).mono hb5.size))
                       clear hw6
                       have hlc:=True.intro))
                  have CH := out_Hear7 (LP.out.ob.below hb6.out) LP.out.nil ((j : Int) + 1) (by omega)
                  obtain ⟨U', m', N', ps', cs', hX, hN, hI, hpl, hF⟩ := (T_comp h60 hti.out hjlt hnE.out hjU.out h2t.out)
                  rw [LP.out.p, hX] at CH
                  dsimp only [SS.fin] at CH
                  clear hX
                  have hN := hid hN
                  have hI := hid hI
                  have hF := hid hF
                  refine CH.mono ?_
                  clear CH
                  rintro e w7 ⟨vp7, vc7, L7, rfl, d7⟩
                  obtain ⟨ap7, cp7, rfl⟩ := own_slice d7.packs
                  obtain ⟨ac7, cc7, rfl⟩ := own_slice d7.chgs
                  generalize hcs7 : cs' ++ _ = cs7 at *
                  clear hcs7
                  generalize hn7 : cs7.length = n7 at *
                  have D7 := hid d7
                  have C7 := hid (LP.out.call hb6.out d7)
                  obtain ⟨cb, hbx, hbs⟩ := C7.out.box
                  have hdn : db ∉ blk (.slice ap7 ps'.length cp7) := fun hx => block_not_row hbx (by decide) d7.packs (mem_blk.1 hx).symm
                  have hbx := hid hbx
                  have hbs := hid hbs
                  have hdn := hid hdn
                  have hn7 := hid hn7
                  clear d7
                  have AP := hid fun (w8 : World) (c : Array Value) (h8 : Blk w8 db c 34) (hw : Wrote [db] w7 w8) => LP.out.app hb6.out D7.out hdn.out h8 hw ht.out hk hpl
                  have hpl := hid hpl
                  go_wp2_with (first
                    | (refine wpList_plain rfl fun _ hK => wp_store_whole 34 34 _ _ rfl 2 (fun w => by kernel_rfl) db cb #[.slice ap7 ps'.length cp7, .slice ac7 n7 cc7] rfl rfl hbx.out rfl hbs.out (by simp [Value.oneCell']) fun w8 hb8 hw8 => hK _ _ ?_
                       have e0 : w8.cell? ⟨db, 0, none⟩ = some (.slice ap7 ps'.length cp7) := hb8.cell 0
                       have hb8 := hid hb8
                       have hw8 := hid hw8)
                    | (at_builtin
                       refine append_waits rfl _ _ rfl rfl (AP.out _ _ hb8.out hw8.out).1 (AP.out _ _ hb8.out hw8.out).2.1 (AP.out _ _ hb8.out hw8.out).2.2.1 (AP.out _ _ hb8.out hw8.out).2.2.2.1 (AP.out _ _ hb8.out hw8.out).2.2.2.2.1 (AP.out _ _ hb8.out hw8.out).2.2.2.2.2 rfl rfl fun v9 w9 G9 ha9 hw9 hg9 => ?_
                       have ha9 := hid ha9
                       have hw9 := hid hw9
                       have hg9 := hid hg9))

                  go_roundw
                  case rel => exact ⟨k + 1, s, U', m', E ++ N', ps ++ ps', L7, v9, rfl, rfl, by go_num, by go_num, hid (LP.out.done hb6.out D7.out (G := db :: G9) ((hw8.out.sub (by simp)).trans (hw9.out.sub (fun x hx => by simp [hx]))) (fun x hx => by
                    rcases List.mem_cons.1 hx with rfl | hx
                    · exact ⟨C7.out.dbn, LP.out.dbge⟩
                    · exact ⟨fun h => (hg9.out x hx).1 (by simp [h]), (hg9.out x hx).2⟩) ⟨_, hb8.out.wrote hw9.out (fun hx => (hg9.out db hx).1 (by simp)), rfl⟩ hT (by rw [List.length_append, List.flatMap_append]; exact ha9.out) (PacksOf.append hpks hN.out) hI.out (hF.out _ LP.out.few) (by have h1 := LP.out.len; have h2 := hpl.out; simp only [List.length_append, List.length_cons] at h1 ⊢; omega))⟩
                  case measure => simp [intOf]; omega
              | false =>
                obtain ⟨dup, hp0⟩ : ∃ dup, p0 = (tUnd qs (j, false)).pub dup := by simpa [PackOf] using hpk0
                subst hp0
                obtain ⟨ch, hch⟩ : ∃ ch, UInt8.ofNat (65 + j) = ch := ⟨_, rfl⟩
                have hcn : (ch.toNat : Int) = 65 + (j : Int) := chNat (by omega) hch
                have hjs : j ≤ s := hpop.1 rfl
                have hat : ∀ h, wrap64 (wrap64 (((⟨#[ch]⟩ : ByteArray)[0]'h).toNat : Int) - 65) = (j : Int) := fun h => wrapAt (by omega) hch h
                have djs : decide ((s : Int) < (j : Int)) = false := decide_eq_false (by omega)
                have hqq : tQ qs j = 1 ∨ tQ qs j = 2 := by unfold tQ; split <;> simp
                by_cases hjs2 : j = s
                · subst hjs2
                  rw [if_pos ⟨rfl, rfl⟩] at hpop
                  obtain ⟨-, hti, hjlt, hjU, hnE, h2q⟩ := hpop
                  have hti := hid hti
                  have hjU := hid hjU
                  have hnE := hid hnE
                  have h2q := hid h2q
                  rcases hqq with hq | hq
                  · skip
                    rcases Nat.lt_or_ge k nl with hkl | hkl
                    · have dkl : decide ((k : Int) < (nl : Int)) = true := decide_eq_true (by omega)
                      obtain ⟨x, hx⟩ : ∃ x, ls[k]? = some x := ⟨_, List.getElem?_eq_getElem (by have := hnl.out; omega)⟩
                      obtain ⟨bl, ol, hal, -⟩ := hlsr.out.bool hx
                      subst hal
                      have hx := hid hx
                      cases x with
                      | true =>
                        go_wp2_with (first
                          | (refine wpList_load_mid rfl 45 _ rfl g off rfl (PackV.cells ((tUnd qs (j,false)).pub dup)) _ hld.out Tryz.underlying45 rfl (by kernel_rfl) ?_)
                          | (refine wpList_plain rfl fun _ hK => wp_store_whole 45 45 _ _ rfl 24 (fun w => by kernel_rfl) w5.heap.size _ (PackV.cells ((tUnd qs (j,false)).pub dup)).toArray rfl rfl (Blk.new w5 _ _) rfl rfl (PackV.one ((tUnd qs (j,false)).pub dup)) fun w6 hb6 hw6 => hK _ _ ?_
                             have c0 : w6.cell? ⟨w5.heap.size, 0, none⟩ = some (.int .i64 3) := hb6.cell 0
                             have c3 : w6.cell? ⟨w5.heap.size, 3, none⟩ = some (.int .i64 1) := (hb6.cell 3).trans (by show some (Value.int .i64 (tQ qs j))=_;rw[hq])
                             have c5 : w6.cell? ⟨w5.heap.size, 5, none⟩ = some (.string ⟨#[ch]⟩) := (hb6.cell 5).trans (by show some (Value.string ⟨[UInt8.ofNat (65+j)].toArray⟩)=_;rw[hch])
                             have c6 : w6.cell? ⟨w5.heap.size, 6, none⟩ = some (.int .i64 ((j:Int)+1)) := hb6.cell 6
                             have hb6 : Hid (Below wr.heap.size wr w6) := hid (hb5.trans ((((Below.refl _ w5).alloc (Nat.le_refl _) _).trans (hw6.below (by simp) (by simp))).mono hb5.size))
                             clear hw6
                             have hlc:=(hlsr.out.below hb6.out).boolAt hx.out))
                        go_roundw
                        case rel => exact ⟨k + 1, (j+1), U, m, E, ps, L, _, rfl, rfl, by go_num, by go_num, hid (LP.out.lost hb6.out ht.out hti.out (by omega))⟩
                        case measure => simp [intOf]; omega
                      | false =>
                        go_wp2_with (first
                          | (refine wpList_load_mid rfl 45 _ rfl g off rfl (PackV.cells ((tUnd qs (j,false)).pub dup)) _ hld.out Tryz.underlying45 rfl (by kernel_rfl) ?_)
                          | (refine wpList_plain rfl fun _ hK => wp_store_whole 45 45 _ _ rfl 24 (fun w => by kernel_rfl) w5.heap.size _ (PackV.cells ((tUnd qs (j,false)).pub dup)).toArray rfl rfl (Blk.new w5 _ _) rfl rfl (PackV.one ((tUnd qs (j,false)).pub dup)) fun w6 hb6 hw6 => hK _ _ ?_
                             have c0 : w6.cell? ⟨w5.heap.size, 0, none⟩ = some (.int .i64 3) := hb6.cell 0
                             have c3 : w6.cell? ⟨w5.heap.size, 3, none⟩ = some (.int .i64 1) := (hb6.cell 3).trans (by show some (Value.int .i64 (tQ qs j))=_;rw[hq])
                             have c5 : w6.cell? ⟨w5.heap.size, 5, none⟩ = some (.string ⟨#[ch]⟩) := (hb6.cell 5).trans (by show some (Value.string ⟨[UInt8.ofNat (65+j)].toArray⟩)=_;rw[hch])
                             have c6 : w6.cell? ⟨w5.heap.size, 6, none⟩ = some (.int .i64 ((j:Int)+1)) := hb6.cell 6
                             have hb6 : Hid (Below wr.heap.size wr w6) := hid (hb5.trans ((((Below.refl _ w5).alloc (Nat.le_refl _) _).trans (hw6.below (by simp) (by simp))).mono hb5.size))
                             clear hw6
                             have hlc:=(hlsr.out.below hb6.out).boolAt hx.out))
                        have CH := out_Hear4 (LP.out.ob.below hb6.out) LP.out.nil ((j : Int) + 1) (by omega)
                        obtain ⟨U', m', N', ps', cs', hX, hN, hI, hpl, hF⟩ := (T_ack h60 hti.out hjlt hnE.out hjU.out hq)
                        rw [LP.out.p, hX] at CH
                        dsimp only [SS.fin] at CH
                        clear hX
                        have hN := hid hN
                        have hI := hid hI
                        have hF := hid hF
                        refine CH.mono ?_
                        clear CH
                        rintro e w7 ⟨vp7, vc7, L7, rfl, d7⟩
                        obtain ⟨ap7, cp7, rfl⟩ := own_slice d7.packs
                        obtain ⟨ac7, cc7, rfl⟩ := own_slice d7.chgs
                        generalize hcs7 : cs' ++ _ = cs7 at *
                        clear hcs7
                        generalize hn7 : cs7.length = n7 at *
                        have D7 := hid d7
                        have C7 := hid (LP.out.call hb6.out d7)
                        obtain ⟨cb, hbx, hbs⟩ := C7.out.box
                        have hdn : db ∉ blk (.slice ap7 ps'.length cp7) := fun hx => block_not_row hbx (by decide) d7.packs (mem_blk.1 hx).symm
                        have hbx := hid hbx
                        have hbs := hid hbs
                        have hdn := hid hdn
                        have hn7 := hid hn7
                        clear d7
                        have AP := hid fun (w8 : World) (c : Array Value) (h8 : Blk w8 db c 34) (hw : Wrote [db] w7 w8) => LP.out.app hb6.out D7.out hdn.out h8 hw ht.out hk hpl
                        have hpl := hid hpl
                        go_wp2_with (first
                          | (refine wpList_plain rfl fun _ hK => wp_store_whole 34 34 _ _ rfl 2 (fun w => by kernel_rfl) db cb #[.slice ap7 ps'.length cp7, .slice ac7 n7 cc7] rfl rfl hbx.out rfl hbs.out (by simp [Value.oneCell']) fun w8 hb8 hw8 => hK _ _ ?_
                             have e0 : w8.cell? ⟨db, 0, none⟩ = some (.slice ap7 ps'.length cp7) := hb8.cell 0
                             have hb8 := hid hb8
                             have hw8 := hid hw8)
                          | (at_builtin
                             refine append_waits rfl _ _ rfl rfl (AP.out _ _ hb8.out hw8.out).1 (AP.out _ _ hb8.out hw8.out).2.1 (AP.out _ _ hb8.out hw8.out).2.2.1 (AP.out _ _ hb8.out hw8.out).2.2.2.1 (AP.out _ _ hb8.out hw8.out).2.2.2.2.1 (AP.out _ _ hb8.out hw8.out).2.2.2.2.2 rfl rfl fun v9 w9 G9 ha9 hw9 hg9 => ?_
                             have ha9 := hid ha9
                             have hw9 := hid hw9
                             have hg9 := hid hg9))

                        go_roundw
                        case rel => exact ⟨k + 1, (j+1), U', m', E ++ N', ps ++ ps', L7, v9, rfl, rfl, by go_num, by go_num, hid (LP.out.done hb6.out D7.out (G := db :: G9) ((hw8.out.sub (by simp)).trans (hw9.out.sub (fun x hx => by simp [hx]))) (fun x hx => by
                          rcases List.mem_cons.1 hx with rfl | hx
                          · exact ⟨C7.out.dbn, LP.out.dbge⟩
                          · exact ⟨fun h => (hg9.out x hx).1 (by simp [h]), (hg9.out x hx).2⟩) ⟨_, hb8.out.wrote hw9.out (fun hx => (hg9.out db hx).1 (by simp)), rfl⟩ hT (by rw [List.length_append, List.flatMap_append]; exact ha9.out) (PacksOf.append hpks hN.out) hI.out (hF.out _ LP.out.few) (by have h1 := LP.out.len; have h2 := hpl.out; simp only [List.length_append, List.length_cons] at h1 ⊢; omega))⟩
                        case measure => simp [intOf]; omega
                    · have dkl : decide ((k : Int) < (nl : Int)) = false := decide_eq_false (by omega)
                      have hkl2 : ¬ (k < nl) := by omega
                      go_wp2_with (first
                        | (refine wpList_load_mid rfl 45 _ rfl g off rfl (PackV.cells ((tUnd qs (j,false)).pub dup)) _ hld.out Tryz.underlying45 rfl (by kernel_rfl) ?_)
                        | (refine wpList_plain rfl fun _ hK => wp_store_whole 45 45 _ _ rfl 24 (fun w => by kernel_rfl) w5.heap.size _ (PackV.cells ((tUnd qs (j,false)).pub dup)).toArray rfl rfl (Blk.new w5 _ _) rfl rfl (PackV.one ((tUnd qs (j,false)).pub dup)) fun w6 hb6 hw6 => hK _ _ ?_
                           have c0 : w6.cell? ⟨w5.heap.size, 0, none⟩ = some (.int .i64 3) := hb6.cell 0
                           have c3 : w6.cell? ⟨w5.heap.size, 3, none⟩ = some (.int .i64 1) := (hb6.cell 3).trans (by show some (Value.int .i64 (tQ qs j))=_;rw[hq])
                           have c5 : w6.cell? ⟨w5.heap.size, 5, none⟩ = some (.string ⟨#[ch]⟩) := (hb6.cell 5).trans (by show some (Value.string ⟨[UInt8.ofNat (65+j)].toArray⟩)=_;rw[hch])
                           have c6 : w6.cell? ⟨w5.heap.size, 6, none⟩ = some (.int .i64 ((j:Int)+1)) := hb6.cell 6
                           have hb6 : Hid (Below wr.heap.size wr w6) := hid (hb5.trans ((((Below.refl _ w5).alloc (Nat.le_refl _) _).trans (hw6.below (by simp) (by simp))).mono hb5.size))
                           clear hw6
                           have hlc:=True.intro))
                      have CH := out_Hear4 (LP.out.ob.below hb6.out) LP.out.nil ((j : Int) + 1) (by omega)
                      obtain ⟨U', m', N', ps', cs', hX, hN, hI, hpl, hF⟩ := (T_ack h60 hti.out hjlt hnE.out hjU.out hq)
                      rw [LP.out.p, hX] at CH
                      dsimp only [SS.fin] at CH
                      clear hX
                      have hN := hid hN
                      have hI := hid hI
                      have hF := hid hF
                      refine CH.mono ?_
                      clear CH
                      rintro e w7 ⟨vp7, vc7, L7, rfl, d7⟩
                      obtain ⟨ap7, cp7, rfl⟩ := own_slice d7.packs
                      obtain ⟨ac7, cc7, rfl⟩ := own_slice d7.chgs
                      generalize hcs7 : cs' ++ _ = cs7 at *
                      clear hcs7
                      generalize hn7 : cs7.length = n7 at *
                      have D7 := hid d7
                      have C7 := hid (LP.out.call hb6.out d7)
                      obtain ⟨cb, hbx, hbs⟩ := C7.out.box
                      have hdn : db ∉ blk (.slice ap7 ps'.length cp7) := fun hx => block_not_row hbx (by decide) d7.packs (mem_blk.1 hx).symm
                      have hbx := hid hbx
                      have hbs := hid hbs
                      have hdn := hid hdn
                      have hn7 := hid hn7
                      clear d7
                      have AP := hid fun (w8 : World) (c : Array Value) (h8 : Blk w8 db c 34) (hw : Wrote [db] w7 w8) => LP.out.app hb6.out D7.out hdn.out h8 hw ht.out hk hpl
                      have hpl := hid hpl
                      go_wp2_with (first
                        | (refine wpList_plain rfl fun _ hK => wp_store_whole 34 34 _ _ rfl 2 (fun w => by kernel_rfl) db cb #[.slice ap7 ps'.length cp7, .slice ac7 n7 cc7] rfl rfl hbx.out rfl hbs.out (by simp [Value.oneCell']) fun w8 hb8 hw8 => hK _ _ ?_
                           have e0 : w8.cell? ⟨db, 0, none⟩ = some (.slice ap7 ps'.length cp7) := hb8.cell 0
                           have hb8 := hid hb8
                           have hw8 := hid hw8)
                        | (at_builtin
                           refine append_waits rfl _ _ rfl rfl (AP.out _ _ hb8.out hw8.out).1 (AP.out _ _ hb8.out hw8.out).2.1 (AP.out _ _ hb8.out hw8.out).2.2.1 (AP.out _ _ hb8.out hw8.out).2.2.2.1 (AP.out _ _ hb8.out hw8.out).2.2.2.2.1 (AP.out _ _ hb8.out hw8.out).2.2.2.2.2 rfl rfl fun v9 w9 G9 ha9 hw9 hg9 => ?_
                           have ha9 := hid ha9
                           have hw9 := hid hw9
                           have hg9 := hid hg9))

                      go_roundw
                      case rel => exact ⟨k + 1, (j+1), U', m', E ++ N', ps ++ ps', L7, v9, rfl, rfl, by go_num, by go_num, hid (LP.out.done hb6.out D7.out (G := db :: G9) ((hw8.out.sub (by simp)).trans (hw9.out.sub (fun x hx => by simp [hx]))) (fun x hx => by
                        rcases List.mem_cons.1 hx with rfl | hx
                        · exact ⟨C7.out.dbn, LP.out.dbge⟩
                        · exact ⟨fun h => (hg9.out x hx).1 (by simp [h]), (hg9.out x hx).2⟩) ⟨_, hb8.out.wrote hw9.out (fun hx => (hg9.out db hx).1 (by simp)), rfl⟩ hT (by rw [List.length_append, List.flatMap_append]; exact ha9.out) (PacksOf.append hpks hN.out) hI.out (hF.out _ LP.out.few) (by have h1 := LP.out.len; have h2 := hpl.out; simp only [List.length_append, List.length_cons] at h1 ⊢; omega))⟩
                      case measure => simp [intOf]; omega
                  · skip
                    rcases Nat.lt_or_ge k nl with hkl | hkl
                    · have dkl : decide ((k : Int) < (nl : Int)) = true := decide_eq_true (by omega)
                      obtain ⟨x, hx⟩ : ∃ x, ls[k]? = some x := ⟨_, List.getElem?_eq_getElem (by have := hnl.out; omega)⟩
                      obtain ⟨bl, ol, hal, -⟩ := hlsr.out.bool hx
                      subst hal
                      have hx := hid hx
                      cases x with
                      | true =>
                        go_wp2_with (first
                          | (refine wpList_load_mid rfl 45 _ rfl g off rfl (PackV.cells ((tUnd qs (j,false)).pub dup)) _ hld.out Tryz.underlying45 rfl (by kernel_rfl) ?_)
                          | (refine wpList_plain rfl fun _ hK => wp_store_whole 45 45 _ _ rfl 24 (fun w => by kernel_rfl) w5.heap.size _ (PackV.cells ((tUnd qs (j,false)).pub dup)).toArray rfl rfl (Blk.new w5 _ _) rfl rfl (PackV.one ((tUnd qs (j,false)).pub dup)) fun w6 hb6 hw6 => hK _ _ ?_
                             have c0 : w6.cell? ⟨w5.heap.size, 0, none⟩ = some (.int .i64 3) := hb6.cell 0
                             have c3 : w6.cell? ⟨w5.heap.size, 3, none⟩ = some (.int .i64 2) := (hb6.cell 3).trans (by show some (Value.int .i64 (tQ qs j))=_;rw[hq])
                             have c5 : w6.cell? ⟨w5.heap.size, 5, none⟩ = some (.string ⟨#[ch]⟩) := (hb6.cell 5).trans (by show some (Value.string ⟨[UInt8.ofNat (65+j)].toArray⟩)=_;rw[hch])
                             have c6 : w6.cell? ⟨w5.heap.size, 6, none⟩ = some (.int .i64 ((j:Int)+1)) := hb6.cell 6
                             have hb6 : Hid (Below wr.heap.size wr w6) := hid (hb5.trans ((((Below.refl _ w5).alloc (Nat.le_refl _) _).trans (hw6.below (by simp) (by simp))).mono hb5.size))
                             clear hw6
                             have hlc:=(hlsr.out.below hb6.out).boolAt hx.out))
                        go_roundw
                        case rel => exact ⟨k + 1, (j+1), U, m, E, ps, L, _, rfl, rfl, by go_num, by go_num, hid (LP.out.lost hb6.out ht.out hti.out (by omega))⟩
                        case measure => simp [intOf]; omega
                      | false =>
                        go_wp2_with (first
                          | (refine wpList_load_mid rfl 45 _ rfl g off rfl (PackV.cells ((tUnd qs (j,false)).pub dup)) _ hld.out Tryz.underlying45 rfl (by kernel_rfl) ?_)
                          | (refine wpList_plain rfl fun _ hK => wp_store_whole 45 45 _ _ rfl 24 (fun w => by kernel_rfl) w5.heap.size _ (PackV.cells ((tUnd qs (j,false)).pub dup)).toArray rfl rfl (Blk.new w5 _ _) rfl rfl (PackV.one ((tUnd qs (j,false)).pub dup)) fun w6 hb6 hw6 => hK _ _ ?_
                             have c0 : w6.cell? ⟨w5.heap.size, 0, none⟩ = some (.int .i64 3) := hb6.cell 0
                             have c3 : w6.cell? ⟨w5.heap.size, 3, none⟩ = some (.int .i64 2) := (hb6.cell 3).trans (by show some (Value.int .i64 (tQ qs j))=_;rw[hq])
                             have c5 : w6.cell? ⟨w5.heap.size, 5, none⟩ = some (.string ⟨#[ch]⟩) := (hb6.cell 5).trans (by show some (Value.string ⟨[UInt8.ofNat (65+j)].toArray⟩)=_;rw[hch])
                             have c6 : w6.cell? ⟨w5.heap.size, 6, none⟩ = some (.int .i64 ((j:Int)+1)) := hb6.cell 6
                             have hb6 : Hid (Below wr.heap.size wr w6) := hid (hb5.trans ((((Below.refl _ w5).alloc (Nat.le_refl _) _).trans (hw6.below (by simp) (by simp))).mono hb5.size))
                             clear hw6
                             have hlc:=(hlsr.out.below hb6.out).boolAt hx.out))
                        have CH := out_Hear5 (LP.out.ob.below hb6.out) LP.out.nil ((j : Int) + 1) (by omega)
                        obtain ⟨U', m', N', ps', cs', hX, hN, hI, hpl, hF⟩ := (T_rec h60 hti.out hjlt hnE.out hjU.out hq)
                        rw [LP.out.p, hX] at CH
                        dsimp only [SS.fin] at CH
                        clear hX
                        have hN := hid hN
                        have hI := hid hI
                        have hF := hid hF
                        refine CH.mono ?_
                        clear CH
                        rintro e w7 ⟨vp7, vc7, L7, rfl, d7⟩
                        obtain ⟨ap7, cp7, rfl⟩ := own_slice d7.packs
                        obtain ⟨ac7, cc7, rfl⟩ := own_slice d7.chgs
                        generalize hcs7 : cs' ++ _ = cs7 at *
                        clear hcs7
                        generalize hn7 : cs7.length = n7 at *
                        have D7 := hid d7
                        have C7 := hid (LP.out.call hb6.out d7)
                        obtain ⟨cb, hbx, hbs⟩ := C7.out.box
                        have hdn : db ∉ blk (.slice ap7 ps'.length cp7) := fun hx => block_not_row hbx (by decide) d7.packs (mem_blk.1 hx).symm
                        have hbx := hid hbx
                        have hbs := hid hbs
                        have hdn := hid hdn
                        have hn7 := hid hn7
                        clear d7
                        have AP := hid fun (w8 : World) (c : Array Value) (h8 : Blk w8 db c 34) (hw : Wrote [db] w7 w8) => LP.out.app hb6.out D7.out hdn.out h8 hw ht.out hk hpl
                        have hpl := hid hpl
                        go_wp2_with (first
                          | (refine wpList_plain rfl fun _ hK => wp_store_whole 34 34 _ _ rfl 2 (fun w => by kernel_rfl) db cb #[.slice ap7 ps'.length cp7, .slice ac7 n7 cc7] rfl rfl hbx.out rfl hbs.out (by simp [Value.oneCell']) fun w8 hb8 hw8 => hK _ _ ?_
                             have e0 : w8.cell? ⟨db, 0, none⟩ = some (.slice ap7 ps'.length cp7) := hb8.cell 0
                             have hb8 := hid hb8
                             have hw8 := hid hw8)
                          | (at_builtin
                             refine append_waits rfl _ _ rfl rfl (AP.out _ _ hb8.out hw8.out).1 (AP.out _ _ hb8.out hw8.out).2.1 (AP.out _ _ hb8.out hw8.out).2.2.1 (AP.out _ _ hb8.out hw8.out).2.2.2.1 (AP.out _ _ hb8.out hw8.out).2.2.2.2.1 (AP.out _ _ hb8.out hw8.out).2.2.2.2.2 rfl rfl fun v9 w9 G9 ha9 hw9 hg9 => ?_
                             have ha9 := hid ha9
                             have hw9 := hid hw9
                             have hg9 := hid hg9))

                        go_roundw
                        case rel => exact ⟨k + 1, (j+1), U', m', E ++ N', ps ++ ps', L7, v9, rfl, rfl, by go_num, by go_num, hid (LP.out.done hb6.out D7.out (G := db :: G9) ((hw8.out.sub (by simp)).trans (hw9.out.sub (fun x hx => by simp [hx]))) (fun x hx => by
                          rcases List.mem_cons.1 hx with rfl | hx
                          · exact ⟨C7.out.dbn, LP.out.dbge⟩
                          · exact ⟨fun h => (hg9.out x hx).1 (by simp [h]), (hg9.out x hx).2⟩) ⟨_, hb8.out.wrote hw9.out (fun hx => (hg9.out db hx).1 (by simp)), rfl⟩ hT (by rw [List.length_append, List.flatMap_append]; exact ha9.out) (PacksOf.append hpks hN.out) hI.out (hF.out _ LP.out.few) (by have h1 := LP.out.len; have h2 := hpl.out; simp only [List.length_append, List.length_cons] at h1 ⊢; omega))⟩
                        case measure => simp [intOf]; omega
                    · have dkl : decide ((k : Int) < (nl : Int)) = false := decide_eq_false (by omega)
                      have hkl2 : ¬ (k < nl) := by omega
                      go_wp2_with (first
                        | (refine wpList_load_mid rfl 45 _ rfl g off rfl (PackV.cells ((tUnd qs (j,false)).pub dup)) _ hld.out Tryz.underlying45 rfl (by kernel_rfl) ?_)
                        | (refine wpList_plain rfl fun _ hK => wp_store_whole 45 45 _ _ rfl 24 (fun w => by kernel_rfl) w5.heap.size _ (PackV.cells ((tUnd qs (j,false)).pub dup)).toArray rfl rfl (Blk.new w5 _ _) rfl rfl (PackV.one ((tUnd qs (j,false)).pub dup)) fun w6 hb6 hw6 => hK _ _ ?_
                           have c0 : w6.cell? ⟨w5.heap.size, 0, none⟩ = some (.int .i64 3) := hb6.cell 0
                           have c3 : w6.cell? ⟨w5.heap.size, 3, none⟩ = some (.int .i64 2) := (hb6.cell 3).trans (by show some (Value.int .i64 (tQ qs j))=_;rw[hq])
                           have c5 : w6.cell? ⟨w5.heap.size, 5, none⟩ = some (.string ⟨#[ch]⟩) := (hb6.cell 5).trans (by show some (Value.string ⟨[UInt8.ofNat (65+j)].toArray⟩)=_;rw[hch])
                           have c6 : w6.cell? ⟨w5.heap.size, 6, none⟩ = some (.int .i64 ((j:Int)+1)) := hb6.cell 6
                           have hb6 : Hid (Below wr.heap.size wr w6) := hid (hb5.trans ((((Below.refl _ w5).alloc (Nat.le_refl _) _).trans (hw6.below (by simp) (by simp))).mono hb5.size))
                           clear hw6
                           have hlc:=True.intro))
                      have CH := out_Hear5 (LP.out.ob.below hb6.out) LP.out.nil ((j : Int) + 1) (by omega)
                      obtain ⟨U', m', N', ps', cs', hX, hN, hI, hpl, hF⟩ := (T_rec h60 hti.out hjlt hnE.out hjU.out hq)
                      rw [LP.out.p, hX] at CH
                      dsimp only [SS.fin] at CH
                      clear hX
                      have hN := hid hN
                      have hI := hid hI
                      have hF := hid hF
                      refine CH.mono ?_
                      clear CH
                      rintro e w7 ⟨vp7, vc7, L7, rfl, d7⟩
                      obtain ⟨ap7, cp7, rfl⟩ := own_slice d7.packs
                      obtain ⟨ac7, cc7, rfl⟩ := own_slice d7.chgs
                      generalize hcs7 : cs' ++ _ = cs7 at *
                      clear hcs7
                      generalize hn7 : cs7.length = n7 at *
                      have D7 := hid d7
                      have C7 := hid (LP.out.call hb6.out d7)
                      obtain ⟨cb, hbx, hbs⟩ := C7.out.box
                      have hdn : db ∉ blk (.slice ap7 ps'.length cp7) := fun hx => block_not_row hbx (by decide) d7.packs (mem_blk.1 hx).symm
                      have hbx := hid hbx
                      have hbs := hid hbs
                      have hdn := hid hdn
                      have hn7 := hid hn7
                      clear d7
                      have AP := hid fun (w8 : World) (c : Array Value) (h8 : Blk w8 db c 34) (hw : Wrote [db] w7 w8) => LP.out.app hb6.out D7.out hdn.out h8 hw ht.out hk hpl
                      have hpl := hid hpl
                      go_wp2_with (first
                        | (refine wpList_plain rfl fun _ hK => wp_store_whole 34 34 _ _ rfl 2 (fun w => by kernel_rfl) db cb #[.slice ap7 ps'.length cp7, .slice ac7 n7 cc7] rfl rfl hbx.out rfl hbs.out (by simp [Value.oneCell']) fun w8 hb8 hw8 => hK _ _ ?_
                           have e0 : w8.cell? ⟨db, 0, none⟩ = some (.slice ap7 ps'.length cp7) := hb8.cell 0
                           have hb8 := hid hb8
                           have hw8 := hid hw8)
                        | (at_builtin
                           refine append_waits rfl _ _ rfl rfl (AP.out _ _ hb8.out hw8.out).1 (AP.out _ _ hb8.out hw8.out).2.1 (AP.out _ _ hb8.out hw8.out).2.2.1 (AP.out _ _ hb8.out hw8.out).2.2.2.1 (AP.out _ _ hb8.out hw8.out).2.2.2.2.1 (AP.out _ _ hb8.out hw8.out).2.2.2.2.2 rfl rfl fun v9 w9 G9 ha9 hw9 hg9 => ?_
                           have ha9 := hid ha9
                           have hw9 := hid hw9
                           have hg9 := hid hg9))

                      go_roundw
                      case rel => exact ⟨k + 1, (j+1), U', m', E ++ N', ps ++ ps', L7, v9, rfl, rfl, by go_num, by go_num, hid (LP.out.done hb6.out D7.out (G := db :: G9) ((hw8.out.sub (by simp)).trans (hw9.out.sub (fun x hx => by simp [hx]))) (fun x hx => by
                        rcases List.mem_cons.1 hx with rfl | hx
                        · exact ⟨C7.out.dbn, LP.out.dbge⟩
                        · exact ⟨fun h => (hg9.out x hx).1 (by simp [h]), (hg9.out x hx).2⟩) ⟨_, hb8.out.wrote hw9.out (fun hx => (hg9.out db hx).1 (by simp)), rfl⟩ hT (by rw [List.length_append, List.flatMap_append]; exact ha9.out) (PacksOf.append hpks hN.out) hI.out (hF.out _ LP.out.few) (by have h1 := LP.out.len; have h2 := hpl.out; simp only [List.length_append, List.length_cons] at h1 ⊢; omega))⟩
                      case measure => simp [intOf]; omega
                · rw [if_neg (fun h => hjs2 h.2)] at hpop
                  obtain ⟨-, hti, hjlt, hjU, hnE, h2q⟩ := hpop
                  have hti := hid hti
                  have hjU := hid hjU
                  have hnE := hid hnE
                  have h2q := hid h2q
                  have djs2 : ((j : Int) == (s : Int)) = false := by simp; omega
                  rcases hqq with hq | hq
                  · skip
                    rcases Nat.lt_or_ge k nl with hkl | hkl
                    · have dkl : decide ((k : Int) < (nl : Int)) = true := decide_eq_true (by omega)
                      obtain ⟨x, hx⟩ : ∃ x, ls[k]? = some x := ⟨_, List.getElem?_eq_getElem (by have := hnl.out; omega)⟩
                      obtain ⟨bl, ol, hal, -⟩ := hlsr.out.bool hx
                      subst hal
                      have hx := hid hx
                      cases x with
                      | true =>
                        go_wp2_with (first
                          | (refine wpList_load_mid rfl 45 _ rfl g off rfl (PackV.cells ((tUnd qs (j,false)).pub dup)) _ hld.out Tryz.underlying45 rfl (by kernel_rfl) ?_)
                          | (refine wpList_plain rfl fun _ hK => wp_store_whole 45 45 _ _ rfl 24 (fun w => by kernel_rfl) w5.heap.size _ (PackV.cells ((tUnd qs (j,false)).pub dup)).toArray rfl rfl (Blk.new w5 _ _) rfl rfl (PackV.one ((tUnd qs (j,false)).pub dup)) fun w6 hb6 hw6 => hK _ _ ?_
                             have c0 : w6.cell? ⟨w5.heap.size, 0, none⟩ = some (.int .i64 3) := hb6.cell 0
                             have c3 : w6.cell? ⟨w5.heap.size, 3, none⟩ = some (.int .i64 1) := (hb6.cell 3).trans (by show some (Value.int .i64 (tQ qs j))=_;rw[hq])
                             have c5 : w6.cell? ⟨w5.heap.size, 5, none⟩ = some (.string ⟨#[ch]⟩) := (hb6.cell 5).trans (by show some (Value.string ⟨[UInt8.ofNat (65+j)].toArray⟩)=_;rw[hch])
                             have c6 : w6.cell? ⟨w5.heap.size, 6, none⟩ = some (.int .i64 ((j:Int)+1)) := hb6.cell 6
                             have hb6 : Hid (Below wr.heap.size wr w6) := hid (hb5.trans ((((Below.refl _ w5).alloc (Nat.le_refl _) _).trans (hw6.below (by simp) (by simp))).mono hb5.size))
                             clear hw6
                             have hlc:=(hlsr.out.below hb6.out).boolAt hx.out))
                        go_roundw
                        case rel => exact ⟨k + 1, s, U, m, E, ps, L, _, rfl, rfl, by go_num, by go_num, hid (LP.out.lost hb6.out ht.out hti.out (by omega))⟩
                        case measure => simp [intOf]; omega
                      | false =>
                        go_wp2_with (first
                          | (refine wpList_load_mid rfl 45 _ rfl g off rfl (PackV.cells ((tUnd qs (j,false)).pub dup)) _ hld.out Tryz.underlying45 rfl (by kernel_rfl) ?_)
                          | (refine wpList_plain rfl fun _ hK => wp_store_whole 45 45 _ _ rfl 24 (fun w => by kernel_rfl) w5.heap.size _ (PackV.cells ((tUnd qs (j,false)).pub dup)).toArray rfl rfl (Blk.new w5 _ _) rfl rfl (PackV.one ((tUnd qs (j,false)).pub dup)) fun w6 hb6 hw6 => hK _ _ ?_
                             have c0 : w6.cell? ⟨w5.heap.size, 0, none⟩ = some (.int .i64 3) := hb6.cell 0
                             have c3 : w6.cell? ⟨w5.heap.size, 3, none⟩ = some (.int .i64 1) := (hb6.cell 3).trans (by show some (Value.int .i64 (tQ qs j))=_;rw[hq])
                             have c5 : w6.cell? ⟨w5.heap.size, 5, none⟩ = some (.string ⟨#[ch]⟩) := (hb6.cell 5).trans (by show some (Value.string ⟨[UInt8.ofNat (65+j)].toArray⟩)=_;rw[hch])
                             have c6 : w6.cell? ⟨w5.heap.size, 6, none⟩ = some (.int .i64 ((j:Int)+1)) := hb6.cell 6
                             have hb6 : Hid (Below wr.heap.size wr w6) := hid (hb5.trans ((((Below.refl _ w5).alloc (Nat.le_refl _) _).trans (hw6.below (by simp) (by simp))).mono hb5.size))
                             clear hw6
                             have hlc:=(hlsr.out.below hb6.out).boolAt hx.out))
                        have CH := out_Hear4 (LP.out.ob.below hb6.out) LP.out.nil ((j : Int) + 1) (by omega)
                        obtain ⟨U', m', N', ps', cs', hX, hN, hI, hpl, hF⟩ := (T_ack h60 hti.out hjlt hnE.out hjU.out hq)
                        rw [LP.out.p, hX] at CH
                        dsimp only [SS.fin] at CH
                        clear hX
                        have hN := hid hN
                        have hI := hid hI
                        have hF := hid hF
                        refine CH.mono ?_
                        clear CH
                        rintro e w7 ⟨vp7, vc7, L7, rfl, d7⟩
                        obtain ⟨ap7, cp7, rfl⟩ := own_slice d7.packs
                        obtain ⟨ac7, cc7, rfl⟩ := own_slice d7.chgs
                        generalize hcs7 : cs' ++ _ = cs7 at *
                        clear hcs7
                        generalize hn7 : cs7.length = n7 at *
                        have D7 := hid d7
                        have C7 := hid (LP.out.call hb6.out d7)
                        obtain ⟨cb, hbx, hbs⟩ := C7.out.box
                        have hdn : db ∉ blk (.slice ap7 ps'.length cp7) := fun hx => block_not_row hbx (by decide) d7.packs (mem_blk.1 hx).symm
                        have hbx := hid hbx
                        have hbs := hid hbs
                        have hdn := hid hdn
                        have hn7 := hid hn7
                        clear d7
                        have AP := hid fun (w8 : World) (c : Array Value) (h8 : Blk w8 db c 34) (hw : Wrote [db] w7 w8) => LP.out.app hb6.out D7.out hdn.out h8 hw ht.out hk hpl
                        have hpl := hid hpl
                        go_wp2_with (first
                          | (refine wpList_plain rfl fun _ hK => wp_store_whole 34 34 _ _ rfl 2 (fun w => by kernel_rfl) db cb #[.slice ap7 ps'.length cp7, .slice ac7 n7 cc7] rfl rfl hbx.out rfl hbs.out (by simp [Value.oneCell']) fun w8 hb8 hw8 => hK _ _ ?_
                             have e0 : w8.cell? ⟨db, 0, none⟩ = some (.slice ap7 ps'.length cp7) := hb8.cell 0
                             have hb8 := hid hb8
                             have hw8 := hid hw8)
                          | (at_builtin
                             refine append_waits rfl _ _ rfl rfl (AP.out _ _ hb8.out hw8.out).1 (AP.out _ _ hb8.out hw8.out).2.1 (AP.out _ _ hb8.out hw8.out).2.2.1 (AP.out _ _ hb8.out hw8.out).2.2.2.1 (AP.out _ _ hb8.out hw8.out).2.2.2.2.1 (AP.out _ _ hb8.out hw8.out).2.2.2.2.2 rfl rfl fun v9 w9 G9 ha9 hw9 hg9 => ?_
                             have ha9 := hid ha9
                             have hw9 := hid hw9
                             have hg9 := hid hg9))

                        go_roundw
                        case rel => exact ⟨k + 1, s, U', m', E ++ N', ps ++ ps', L7, v9, rfl, rfl, by go_num, by go_num, hid (LP.out.done hb6.out D7.out (G := db :: G9) ((hw8.out.sub (by simp)).trans (hw9.out.sub (fun x hx => by simp [hx]))) (fun x hx => by
                          rcases List.mem_cons.1 hx with rfl | hx
                          · exact ⟨C7.out.dbn, LP.out.dbge⟩
                          · exact ⟨fun h => (hg9.out x hx).1 (by simp [h]), (hg9.out x hx).2⟩) ⟨_, hb8.out.wrote hw9.out (fun hx => (hg9.out db hx).1 (by simp)), rfl⟩ hT (by rw [List.length_append, List.flatMap_append]; exact ha9.out) (PacksOf.append hpks hN.out) hI.out (hF.out _ LP.out.few) (by have h1 := LP.out.len; have h2 := hpl.out; simp only [List.length_append, List.length_cons] at h1 ⊢; omega))⟩
                        case measure => simp [intOf]; omega
                    · have dkl : decide ((k : Int) < (nl : Int)) = false := decide_eq_false (by omega)
                      have hkl2 : ¬ (k < nl) := by omega
                      go_wp2_with (first
                        | (refine wpList_load_mid rfl 45 _ rfl g off rfl (PackV.cells ((tUnd qs (j,false)).pub dup)) _ hld.out Tryz.underlying45 rfl (by kernel_rfl) ?_)
                        | (refine wpList_plain rfl fun _ hK => wp_store_whole 45 45 _ _ rfl 24 (fun w => by kernel_rfl) w5.heap.size _ (PackV.cells ((tUnd qs (j,false)).pub dup)).toArray rfl rfl (Blk.new w5 _ _) rfl rfl (PackV.one ((tUnd qs (j,false)).pub dup)) fun w6 hb6 hw6 => hK _ _ ?_
                           have c0 : w6.cell? ⟨w5.heap.size, 0, none⟩ = some (.int .i64 3) := hb6.cell 0
                           have c3 : w6.cell? ⟨w5.heap.size, 3, none⟩ = some (.int .i64 1) := (hb6.cell 3).trans (by show some (Value.int .i64 (tQ qs j))=_;rw[hq])
                           have c5 : w6.cell? ⟨w5.heap.size, 5, none⟩ = some (.string ⟨#[ch]⟩) := (hb6.cell 5).trans (by show some (Value.string ⟨[UInt8.ofNat (65+j)].toArray⟩)=_;rw[hch])
                           have c6 : w6.cell? ⟨w5.heap.size, 6, none⟩ = some (.int .i64 ((j:Int)+1)) := hb6.cell 6
                           have hb6 : Hid (Below wr.heap.size wr w6) := hid (hb5.trans ((((Below.refl _ w5).alloc (Nat.le_refl _) _).trans (hw6.below (by simp) (by simp))).mono hb5.size))
                           clear hw6
                           have hlc:=True.intro))
                      have CH := out_Hear4 (LP.out.ob.below hb6.out) LP.out.nil ((j : Int) + 1) (by omega)
                      obtain ⟨U', m', N', ps', cs', hX, hN, hI, hpl, hF⟩ := (T_ack h60 hti.out hjlt hnE.out hjU.out hq)
                      rw [LP.out.p, hX] at CH
                      dsimp only [SS.fin] at CH
                      clear hX
                      have hN := hid hN
                      have hI := hid hI
                      have hF := hid hF
                      refine CH.mono ?_
                      clear CH
                      rintro e w7 ⟨vp7, vc7, L7, rfl, d7⟩
                      obtain ⟨ap7, cp7, rfl⟩ := own_slice d7.packs
                      obtain ⟨ac7, cc7, rfl⟩ := own_slice d7.chgs
                      generalize hcs7 : cs' ++ _ = cs7 at *
                      clear hcs7
                      generalize hn7 : cs7.length = n7 at *
                      have D7 := hid d7
                      have C7 := hid (LP.out.call hb6.out d7)
                      obtain ⟨cb, hbx, hbs⟩ := C7.out.box
                      have hdn : db ∉ blk (.slice ap7 ps'.length cp7) := fun hx => block_not_row hbx (by decide) d7.packs (mem_blk.1 hx).symm
                      have hbx := hid hbx
                      have hbs := hid hbs
                      have hdn := hid hdn
                      have hn7 := hid hn7
                      clear d7
                      have AP := hid fun (w8 : World) (c : Array Value) (h8 : Blk w8 db c 34) (hw : Wrote [db] w7 w8) => LP.out.app hb6.out D7.out hdn.out h8 hw ht.out hk hpl
                      have hpl := hid hpl
                      go_wp2_with (first
                        | (refine wpList_plain rfl fun _ hK => wp_store_whole 34 34 _ _ rfl 2 (fun w => by kernel_rfl) db cb #[.slice ap7 ps'.length cp7, .slice ac7 n7 cc7] rfl rfl hbx.out rfl hbs.out (by simp [Value.oneCell']) fun w8 hb8 hw8 => hK _ _ ?_
                           have e0 : w8.cell? ⟨db, 0, none⟩ = some (.slice ap7 ps'.length cp7) := hb8.cell 0
                           have hb8 := hid hb8
                           have hw8 := hid hw8)
                        | (at_builtin
                           refine append_waits rfl _ _ rfl rfl (AP.out _ _ hb8.out hw8.out).1 (AP.out _ _ hb8.out hw8.out).2.1 (AP.out _ _ hb8.out hw8.out).2.2.1 (AP.out _ _ hb8.out hw8.out).2.2.2.1 (AP.out _ _ hb8.out hw8.out).2.2.2.2.1 (AP.out _ _ hb8.out hw8.out).2.2.2.2.2 rfl rfl fun v9 w9 G9 ha9 hw9 hg9 => ?_
                           have ha9 := hid ha9
                           have hw9 := hid hw9
                           have hg9 := hid hg9))

                      go_roundw
                      case rel => exact ⟨k + 1, s, U', m', E ++ N', ps ++ ps', L7, v9, rfl, rfl, by go_num, by go_num, hid (LP.out.done hb6.out D7.out (G := db :: G9) ((hw8.out.sub (by simp)).trans (hw9.out.sub (fun x hx => by simp [hx]))) (fun x hx => by
                        rcases List.mem_cons.1 hx with rfl | hx
                        · exact ⟨C7.out.dbn, LP.out.dbge⟩
                        · exact ⟨fun h => (hg9.out x hx).1 (by simp [h]), (hg9.out x hx).2⟩) ⟨_, hb8.out.wrote hw9.out (fun hx => (hg9.out db hx).1 (by simp)), rfl⟩ hT (by rw [List.length_append, List.flatMap_append]; exact ha9.out) (PacksOf.append hpks hN.out) hI.out (hF.out _ LP.out.few) (by have h1 := LP.out.len; have h2 := hpl.out; simp only [List.length_append, List.length_cons] at h1 ⊢; omega))⟩
                      case measure => simp [intOf]; omega
                  · skip
                    rcases Nat.lt_or_ge k nl with hkl | hkl
                    · have dkl : decide ((k : Int) < (nl : Int)) = true := decide_eq_true (by omega)
                      obtain ⟨x, hx⟩ : ∃ x, ls[k]? = some x := ⟨_, List.getElem?_eq_getElem (by have := hnl.out; omega)⟩
                      obtain ⟨bl, ol, hal, -⟩ := hlsr.out.bool hx
                      subst hal
                      have hx := hid hx
                      cases x with
                      | true =>
                        go_wp2_with (first
                          | (refine wpList_load_mid rfl 45 _ rfl g off rfl (PackV.cells ((tUnd qs (j,false)).pub dup)) _ hld.out Tryz.underlying45 rfl (by kernel_rfl) ?_)
                          | (refine wpList_plain rfl fun _ hK => wp_store_whole 45 45 _ _ rfl 24 (fun w => by kernel_rfl) w5.heap.size _ (PackV.cells ((tUnd qs (j,false)).pub dup)).toArray rfl rfl (Blk.new w5 _ _) rfl rfl (PackV.one ((tUnd qs (j,false)).pub dup)) fun w6 hb6 hw6 => hK _ _ ?_
                             have c0 : w6.cell? ⟨w5.heap.size, 0, none⟩ = some (.int .i64 3) := hb6.cell 0
                             have c3 : w6.cell? ⟨w5.heap.size, 3, none⟩ = some (.int .i64 2) := (hb6.cell 3).trans (by show some (Value.int .i64 (tQ qs j))=_;rw[hq])
                             have c5 : w6.cell? ⟨w5.heap.size, 5, none⟩ = some (.string ⟨#[ch]⟩) := (hb6.cell 5).trans (by show some (Value.string ⟨[UInt8.ofNat (65+j)].toArray⟩)=_;rw[hch])
                             have c6 : w6.cell? ⟨w5.heap.size, 6, none⟩ = some (.int .i64 ((j:Int)+1)) := hb6.cell 6
                             have hb6 : Hid (Below wr.heap.size wr w6) := hid (hb5.trans ((((Below.refl _ w5).alloc (Nat.le_refl _) _).trans (hw6.below (by simp) (by simp))).mono hb5.size))
                             clear hw6
                             have hlc:=(hlsr.out.below hb6.out).boolAt hx.out))
                        go_roundw
                        case rel => exact ⟨k + 1, s, U, m, E, ps, L, _, rfl, rfl, by go_num, by go_num, hid (LP.out.lost hb6.out ht.out hti.out (by omega))⟩
                        case measure => simp [intOf]; omega
                      | false =>
                        go_wp2_with (first
                          | (refine wpList_load_mid rfl 45 _ rfl g off rfl (PackV.cells ((tUnd qs (j,false)).pub dup)) _ hld.out Tryz.underlying45 rfl (by kernel_rfl) ?_)
                          | (refine wpList_plain rfl fun _ hK => wp_store_whole 45 45 _ _ rfl 24 (fun w => by kernel_rfl) w5.heap.size _ (PackV.cells ((tUnd qs (j,false)).pub dup)).toArray rfl rfl (Blk.new w5 _ _) rfl rfl (PackV.one ((tUnd qs (j,false)).pub dup)) fun w6 hb6 hw6 => hK _ _ ?_
                             have c0 : w6.cell? ⟨w5.heap.size, 0, none⟩ = some (.int .i64 3) := hb6.cell 0
                             have c3 : w6.cell? ⟨w5.heap.size, 3, none⟩ = some (.int .i64 2) := (hb6.cell 3).trans (by show some (Value.int .i64 (tQ qs j))=_;rw[hq])
                             have c5 : w6.cell? ⟨w5.heap.size, 5, none⟩ = some (.string ⟨#[ch]⟩) := (hb6.cell 5).trans (by show some (Value.string ⟨[UInt8.ofNat (65+j)].toArray⟩)=_;rw[hch])
                             have c6 : w6.cell? ⟨w5.heap.size, 6, none⟩ = some (.int .i64 ((j:Int)+1)) := hb6.cell 6
                             have hb6 : Hid (Below wr.heap.size wr w6) := hid (hb5.trans ((((Below.refl _ w5).alloc (Nat.le_refl _) _).trans (hw6.below (by simp) (by simp))).mono hb5.size))
                             clear hw6
                             have hlc:=(hlsr.out.below hb6.out).boolAt hx.out))
                        have CH := out_Hear5 (LP.out.ob.below hb6.out) LP.out.nil ((j : Int) + 1) (by omega)
                        obtain ⟨U', m', N', ps', cs', hX, hN, hI, hpl, hF⟩ := (T_rec h60 hti.out hjlt hnE.out hjU.out hq)
                        rw [LP.out.p, hX] at CH
                        dsimp only [SS.fin] at CH
                        clear hX
                        have hN := hid hN
                        have hI := hid hI
                        have hF := hid hF
                        refine CH.mono ?_
                        clear CH
                        rintro e w7 ⟨vp7, vc7, L7, rfl, d7⟩
                        obtain ⟨ap7, cp7, rfl⟩ := own_slice d7.packs
                        obtain ⟨ac7, cc7, rfl⟩ := own_slice d7.chgs
                        generalize hcs7 : cs' ++ _ = cs7 at *
                        clear hcs7
                        generalize hn7 : cs7.length = n7 at *
                        have D7 := hid d7
                        have C7 := hid (LP.out.call hb6.out d7)
                        obtain ⟨cb, hbx, hbs⟩ := C7.out.box
                        have hdn : db ∉ blk (.slice ap7 ps'.length cp7) := fun hx => block_not_row hbx (by decide) d7.packs (mem_blk.1 hx).symm
                        have hbx := hid hbx
                        have hbs := hid hbs
                        have hdn := hid hdn
                        have hn7 := hid hn7
                        clear d7
                        have AP := hid fun (w8 : World) (c : Array Value) (h8 : Blk w8 db c 34) (hw : Wrote [db] w7 w8) => LP.out.app hb6.out D7.out hdn.out h8 hw ht.out hk hpl
                        have hpl := hid hpl
                        go_wp2_with (first
                          | (refine wpList_plain rfl fun _ hK => wp_store_whole 34 34 _ _ rfl 2 (fun w => by kernel_rfl) db cb #[.slice ap7 ps'.length cp7, .slice ac7 n7 cc7] rfl rfl hbx.out rfl hbs.out (by simp [Value.oneCell']) fun w8 hb8 hw8 => hK _ _ ?_
                             have e0 : w8.cell? ⟨db, 0, none⟩ = some (.slice ap7 ps'.length cp7) := hb8.cell 0
                             have hb8 := hid hb8
                             have hw8 := hid hw8)
                          | (at_builtin
                             refine append_waits rfl _ _ rfl rfl (AP.out _ _ hb8.out hw8.out).1 (AP.out _ _ hb8.out hw8.out).2.1 (AP.out _ _ hb8.out hw8.out).2.2.1 (AP.out _ _ hb8.out hw8.out).2.2.2.1 (AP.out _ _ hb8.out hw8.out).2.2.2.2.1 (AP.out _ _ hb8.out hw8.out).2.2.2.2.2 rfl rfl fun v9 w9 G9 ha9 hw9 hg9 => ?_
                             have ha9 := hid ha9
                             have hw9 := hid hw9
                             have hg9 := hid hg9))

                        go_roundw
                        case rel => exact ⟨k + 1, s, U', m', E ++ N', ps ++ ps', L7, v9, rfl, rfl, by go_num, by go_num, hid (LP.out.done hb6.out D7.out (G := db :: G9) ((hw8.out.sub (by simp)).trans (hw9.out.sub (fun x hx => by simp [hx]))) (fun x hx => by
                          rcases List.mem_cons.1 hx with rfl | hx
                          · exact ⟨C7.out.dbn, LP.out.dbge⟩
                          · exact ⟨fun h => (hg9.out x hx).1 (by simp [h]), (hg9.out x hx).2⟩) ⟨_, hb8.out.wrote hw9.out (fun hx => (hg9.out db hx).1 (by simp)), rfl⟩ hT (by rw [List.length_append, List.flatMap_append]; exact ha9.out) (PacksOf.append hpks hN.out) hI.out (hF.out _ LP.out.few) (by have h1 := LP.out.len; have h2 := hpl.out; simp only [List.length_append, List.length_cons] at h1 ⊢; omega))⟩
                        case measure => simp [intOf]; omega
                    · have dkl : decide ((k : Int) < (nl : Int)) = false := decide_eq_false (by omega)
                      have hkl2 : ¬ (k < nl) := by omega
                      go_wp2_with (first
                        | (refine wpList_load_mid rfl 45 _ rfl g off rfl (PackV.cells ((tUnd qs (j,false)).pub dup)) _ hld.out Tryz.underlying45 rfl (by kernel_rfl) ?_)
                        | (refine wpList_plain rfl fun _ hK => wp_store_whole 45 45 _ _ rfl 24 (fun w => by kernel_rfl) w5.heap.size _ (PackV.cells ((tUnd qs (j,false)).pub dup)).toArray rfl rfl (Blk.new w5 _ _) rfl rfl (PackV.one ((tUnd qs (j,false)).pub dup)) fun w6 hb6 hw6 => hK _ _ ?_
                           have c0 : w6.cell? ⟨w5.heap.size, 0, none⟩ = some (.int .i64 3) := hb6.cell 0
                           have c3 : w6.cell? ⟨w5.heap.size, 3, none⟩ = some (.int .i64 2) := (hb6.cell 3).trans (by show some (Value.int .i64 (tQ qs j))=_;rw[hq])
                           have c5 : w6.cell? ⟨w5.heap.size, 5, none⟩ = some (.string ⟨#[ch]⟩) := (hb6.cell 5).trans (by show some (Value.string ⟨[UInt8.ofNat (65+j)].toArray⟩)=_;rw[hch])
                           have c6 : w6.cell? ⟨w5.heap.size, 6, none⟩ = some (.int .i64 ((j:Int)+1)) := hb6.cell 6
                           have hb6 : Hid (Below wr.heap.size wr w6) := hid (hb5.trans ((((Below.refl _ w5).alloc (Nat.le_refl _) _).trans (hw6.below (by simp) (by simp))).mono hb5.size))
                           clear hw6
                           have hlc:=True.intro))
                      have CH := out_Hear5 (LP.out.ob.below hb6.out) LP.out.nil ((j : Int) + 1) (by omega)
                      obtain ⟨U', m', N', ps', cs', hX, hN, hI, hpl, hF⟩ := (T_rec h60 hti.out hjlt hnE.out hjU.out hq)
                      rw [LP.out.p, hX] at CH
                      dsimp only [SS.fin] at CH
                      clear hX
                      have hN := hid hN
                      have hI := hid hI
                      have hF := hid hF
                      refine CH.mono ?_
                      clear CH
                      rintro e w7 ⟨vp7, vc7, L7, rfl, d7⟩
                      obtain ⟨ap7, cp7, rfl⟩ := own_slice d7.packs
                      obtain ⟨ac7, cc7, rfl⟩ := own_slice d7.chgs
                      generalize hcs7 : cs' ++ _ = cs7 at *
                      clear hcs7
                      generalize hn7 : cs7.length = n7 at *
                      have D7 := hid d7
                      have C7 := hid (LP.out.call hb6.out d7)
                      obtain ⟨cb, hbx, hbs⟩ := C7.out.box
                      have hdn : db ∉ blk (.slice ap7 ps'.length cp7) := fun hx => block_not_row hbx (by decide) d7.packs (mem_blk.1 hx).symm
                      have hbx := hid hbx
                      have hbs := hid hbs
                      have hdn := hid hdn
                      have hn7 := hid hn7
                      clear d7
                      have AP := hid fun (w8 : World) (c : Array Value) (h8 : Blk w8 db c 34) (hw : Wrote [db] w7 w8) => LP.out.app hb6.out D7.out hdn.out h8 hw ht.out hk hpl
                      have hpl := hid hpl
                      go_wp2_with (first
                        | (refine wpList_plain rfl fun _ hK => wp_store_whole 34 34 _ _ rfl 2 (fun w => by kernel_rfl) db cb #[.slice ap7 ps'.length cp7, .slice ac7 n7 cc7] rfl rfl hbx.out rfl hbs.out (by simp [Value.oneCell']) fun w8 hb8 hw8 => hK _ _ ?_
                           have e0 : w8.cell? ⟨db, 0, none⟩ = some (.slice ap7 ps'.length cp7) := hb8.cell 0
                           have hb8 := hid hb8
                           have hw8 := hid hw8)
                        | (at_builtin
                           refine append_waits rfl _ _ rfl rfl (AP.out _ _ hb8.out hw8.out).1 (AP.out _ _ hb8.out hw8.out).2.1 (AP.out _ _ hb8.out hw8.out).2.2.1 (AP.out _ _ hb8.out hw8.out).2.2.2.1 (AP.out _ _ hb8.out hw8.out).2.2.2.2.1 (AP.out _ _ hb8.out hw8.out).2.2.2.2.2 rfl rfl fun v9 w9 G9 ha9 hw9 hg9 => ?_
                           have ha9 := hid ha9
                           have hw9 := hid hw9
                           have hg9 := hid hg9))

                      go_roundw
                      case rel => exact ⟨k + 1, s, U', m', E ++ N', ps ++ ps', L7, v9, rfl, rfl, by go_num, by go_num, hid (LP.out.done hb6.out D7.out (G := db :: G9) ((hw8.out.sub (by simp)).trans (hw9.out.sub (fun x hx => by simp [hx]))) (fun x hx => by
                        rcases List.mem_cons.1 hx with rfl | hx
                        · exact ⟨C7.out.dbn, LP.out.dbge⟩
                        · exact ⟨fun h => (hg9.out x hx).1 (by simp [h]), (hg9.out x hx).2⟩) ⟨_, hb8.out.wrote hw9.out (fun hx => (hg9.out db hx).1 (by simp)), rfl⟩ hT (by rw [List.length_append, List.flatMap_append]; exact ha9.out) (PacksOf.append hpks hN.out) hI.out (hF.out _ LP.out.few) (by have h1 := LP.out.len; have h2 := hpl.out; simp only [List.length_append, List.length_cons] at h1 ⊢; omega))⟩
                      case measure => simp [intOf]; omega
  · have KW := known_holds w hT
    by_cases r1 : win < 1
    · have d1 : decide (win < 1) = true := decide_eq_true r1
      go_enter Tryz.func4, Tryz.ntmps4
      go_wp2_with fail
      refine KW.mono ?_
      rintro e w8 ⟨rfl, hb8⟩
      go_wp2
      go_ret
      exact ⟨rfl, hb8⟩
    have d1 : decide (win < 1) = false := decide_eq_false r1
    by_cases r2 : 100 < win
    · have d2 : decide (100 < win) = true := decide_eq_true r2
      go_enter Tryz.func4, Tryz.ntmps4
      go_wp2_with fail
      refine KW.mono ?_
      rintro e w8 ⟨rfl, hb8⟩
      go_wp2
      go_ret
      exact ⟨rfl, hb8⟩
    have d2 : decide (100 < win) = false := decide_eq_false r2
    by_cases r3 : (60 : Int) < (nq : Int)
    · have d3 : decide ((60 : Int) < (nq : Int)) = true := decide_eq_true r3
      go_enter Tryz.func4, Tryz.ntmps4
      go_wp2_with fail
      refine KW.mono ?_
      rintro e w8 ⟨rfl, hb8⟩
      go_wp2
      go_ret
      exact ⟨rfl, hb8⟩
    have d3 : decide ((60 : Int) < (nq : Int)) = false := decide_eq_false r3
    have d4 : decide ((300 : Int) < (nl : Int)) = true := decide_eq_true (by omega)
    go_enter Tryz.func4, Tryz.ntmps4
    go_wp2_with fail
    refine KW.mono ?_
    rintro e w8 ⟨rfl, hb8⟩
    go_wp2
    go_ret
    exact ⟨rfl, hb8⟩
end Go.Proofs.YtodbdojjllabmaaGreatDoor
