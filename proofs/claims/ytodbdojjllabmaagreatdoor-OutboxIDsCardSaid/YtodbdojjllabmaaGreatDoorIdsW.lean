/- The walk of OutboxIDs. -/
import Derived.Test.YtodbdojjllabmaaGreatDoorIdsA
import Derived.Test.YtodbdojjllabmaaGreatDoorKnB
import Derived.Great.FillDense
namespace Go.Proofs.YtodbdojjllabmaaGreatDoor
open Go.RowKit Go.Shelf

theorem pack_flat (ps : List PackV) (i j : Nat) (p : PackV) (h : ps[i]? = some p) (hj : j < 24) : (ps.flatMap PackV.cells)[i * 24 + j]? = p.cells[j]? := by
  have h1 := Go.Great.flat_get (s := 24) (by decide) (ps.map fun p => Value.agg p.cells.toArray) (by simp; intro p _; rfl) (i * 24 + j)
  have e : ((ps.map fun p => Value.agg p.cells.toArray).flatMap fun v => v.cells.toList) = ps.flatMap PackV.cells := by
    rw [List.flatMap_map]
    rfl
  rw [e] at h1
  rw [h1, show (i * 24 + j) / 24 = i by omega, show (i * 24 + j) % 24 = j by omega]
  simp [h, Value.cells]
theorem DidAt.arrN {w w' : World} {L L' : Lay} {s' : OS} {vp vc : Value} {ps : List PackV} {cs : List ChangeV} (d : DidAt w w' L L' s' vp vc ps cs) (h0 : 0 < ps.length) : ∃ (g cap : Nat) (cur : Array Value), vp = .slice (some ⟨g, 0, none⟩) ps.length cap ∧ Kept w' L'.foot g cur 45 ∧
    ∀ (i : Nat) (p : PackV), ps[i]? = some p → cur[i * 24 + 6]? = some (.int .i64 p.id) := by
  have hp := d.packs
  have hf := foot_nil_not d.ob d.nil.1 d.nil.2 hp (.inl rfl)
  obtain ⟨hl, ⟨rfl, h1⟩ | ⟨g, cap, cur, rfl, _, hg, _, _, _, ht⟩⟩ := hp
  · omega
  · refine ⟨g, cap, cur, rfl, ⟨hg, fun hx => hf g hx (by simp [YtodbdojjllabmaaGreatDoor.blk, Value.ownBlock])⟩, fun i p hj => ?_⟩
    have hlt := (List.getElem?_eq_some_iff.1 hj).1
    have h2 := pack_flat ps i 6 p hj (by decide)
    rw [← ht, List.getElem?_take_of_lt (by omega)] at h2
    simpa [PackV.cells] using h2
theorem iMay (id : Int) (h : 1 ≤ id ∧ id ≤ 65535) : sessMay (sessV [99] 0 id) = true := by
  have hc : clientR [99] = true := by kernel_rfl
  unfold sessMay sessV
  simp [hc]
  omega
theorem iMayP (s : OS) (hcl : s.client = [99]) (h0 : 0 ≤ s.seq) (h : s.seq ≤ 1000) : putMay (s.row [116] [98] 1 false) = true := by
  have hc : clientR [99] = true := by kernel_rfl
  have hn : nameR [116] = true := by kernel_rfl
  unfold putMay OS.row
  simp [hcl, hc, hn, h0]
  omega

theorem OB.rebase2 {w : World} {B : Nat} {L : Lay} {s : OS} (h : OB w B L s [] []) (hn : L.vp = .slice none 0 0 ∧ L.vc = .slice none 0 0) : OB w w.heap.size L s [] [] := by
  obtain ⟨p, ib, sb, vl, vp, vc, rb, W⟩ := L
  dsimp only at hn
  obtain ⟨rfl, rfl⟩ := hn
  exact OB.rebase (L := ⟨p, ib, sb, vl, .slice none 0 0, .slice none 0 0, rb, W⟩) h (Nat.le_refl _)

set_option maxRecDepth 100000 in
set_option maxHeartbeats 4000000 in
theorem walk_OutboxIDs (f : Int) (hf : 0 ≤ f ∧ f ≤ 65535) (m : Int) (hm : 0 ≤ m ∧ m ≤ 255) (t : Int) (ht : 0 ≤ t ∧ t ≤ 255) (w : World) (hT : TzAt w) :
    Calls Tryz.prog 3 #[.int .u16 f, .int .u8 m, .int .u8 t] w fun e w' => e = .returned (.bool true) ∧ Below w.heap.size w w' := by
  have q1 : m.tmod 20 = m % 20 := by rw [Int.tmod_eq_emod_of_nonneg (by omega)]
  have q2 : 0 ≤ m % 20 ∧ m % 20 < 20 := ⟨Int.emod_nonneg _ (by omega), Int.emod_lt_of_pos _ (by omega)⟩
  have q3 := q2.1
  have q4 := q2.2
  obtain ⟨n, hn⟩ : ∃ n : Nat, m % 20 + 1 = n := ⟨(m % 20 + 1).toNat, by omega⟩
  by_cases h0 : f = 0
  · subst h0
    have hid2 : 1 ≤ (65535 : Int) ∧ (65535 : Int) ≤ 65535 := by decide
    go_enter Tryz.func3, Tryz.ntmps3
    go_wp2_with fail
    refine (out_Of 20 50 [99] 0 65535 w hT (by decide) (by decide) (by decide) hid2 (by decide) (iMay _ hid2)).mono ?_
    rintro e w0 ⟨L0, rfl, hO0, hn0, hS0⟩
    obtain ⟨p, hp⟩ : ∃ p, L0.p = p := ⟨_, rfl⟩
    rw [hp]
    have hO0 := hid hO0
    have hS0 := hid hS0
    have KH := hid known_holds
    go_wp2_with fail
    go_loopw [11] (fun i wr => ∃ (k : Nat) (L : Lay), i = .int .i64 k ∧ k ≤ n ∧ Hid (L.p = p) ∧ Hid (L.vp = .slice none 0 0 ∧ L.vc = .slice none 0 0) ∧ Hid (OB wr wr.heap.size L (iPuts 65535 k) [] []) ∧ Hid (Stp [] L.foot w wr)) (fun i _ => n - (intOf i).toNat)
    case atStart => exact ⟨0, L0, rfl, Nat.zero_le _, hid hp, hid hn0, hO0, hS0⟩
    case round =>
      obtain ⟨k, L, rfl, hk, hLp, hLn, hLO, hLS⟩ := hrel
      rcases Nat.lt_or_ge k n with hlt | hge
      · have dk : decide ((k : Int) < (n : Int)) = true := decide_eq_true (by omega)
        go_wp2_with fail
        have CP := out_Put hLO.out hLn.out [116] [98] 1 false (by decide) (asc 116 (by decide)) (iMayP _ rfl (by simp [iPuts]) (by simp [iPuts]; omega)) (by simp [iPuts]; omega) (by simp [iPuts]; omega)
        rw [hLp.out, iPuts_succ] at CP
        refine CP.mono ?_
        clear CP
        rintro e w1 ⟨vp, vc, L1, rfl, d1⟩
        obtain ⟨ap, cp, rfl⟩ := own_slice d1.packs
        obtain ⟨ac, cc, rfl⟩ := own_slice d1.chgs
        have D1 := hid d1
        clear d1
        go_wp2_with fail
        go_roundw
        case rel => exact ⟨k + 1, L1, by go_num, by omega, hid (D1.out.p.trans hLp.out), hid D1.out.nil, hid (OB.rebase2 (D1.out.ob.alloc _) D1.out.nil), hid ((hLS.out.trans D1.out.stp).trans (Stp.below ((Below.refl _ _).alloc (Nat.le_refl _) _)))⟩
        case measure => simp [intOf]; omega
      · obtain rfl : n = k := by omega
        have dk : decide ((n : Int) < (n : Int)) = false := by simp
        go_wp2_with fail
        have hn20 : n ≤ 20 := by omega
        have hn1 : 1 ≤ n := by omega
        have CS := out_Send hLO.out hLn.out
        rw [hLp.out, iSends 65535 n hid2 hn20] at CS
        refine CS.mono ?_
        clear CS
        rintro e w2 ⟨vp2, vc2, L2, rfl, d2⟩
        have D2 : Hid (DidAt wr w2 L L2 (iAll 65535 n) vp2 vc2 ((List.range n).map fun j => (iSent 65535 j).pub false) ((iMid 65535 n n).fin (iPuts 65535 n).seq (iPuts 65535 n).id).cs) := hid d2
        clear d2
        obtain ⟨g, cap, cur, hv2, B2, hcur⟩ := D2.out.arrN (by simp; omega)
        obtain ⟨ac2, cc2, rfl⟩ := own_slice D2.out.chgs
        generalize ((iMid 65535 n n).fin (iPuts 65535 n).seq (iPuts 65535 n).id).cs.length = n2 at *
        rw [List.length_map, List.length_range] at hv2
        subst hv2
        have hcur2 := hid fun (k : Nat) (hk : k < n) => (B2.alloc (.cells #[.slice (some ⟨g, 0, none⟩) n cap, .slice ac2 n2 cc2] 34)).blk.cell (k * 24 + 6) |>.trans (hcur k ((iSent 65535 k).pub false) (by simp [hk]))
        have hp2 := hid (D2.out.p.trans hLp.out)
        have B2' := hid (B2.alloc (.cells #[.slice (some ⟨g, 0, none⟩) n cap, .slice ac2 n2 cc2] 34))
        have C2' := hid (Kept.box D2.out.ob #[.slice (some ⟨g, 0, none⟩) n cap, .slice ac2 n2 cc2] 34)
        have O2 : Hid (OB _ _ L2 (iAll 65535 n) [] []) := hid (D2.out.ob.alloc (.cells #[.slice (some ⟨g, 0, none⟩) n cap, .slice ac2 n2 cc2] 34))
        have S2 := hid ((hLS.out.trans D2.out.stp).trans (Stp.below ((Below.refl _ _).alloc (Nat.le_refl _) (.cells #[.slice (some ⟨g, 0, none⟩) n cap, .slice ac2 n2 cc2] 34))))
        have N2 := hid D2.out.nil
        clear D2 B2 hcur hLO hLS hLn hLp
        go_wp2_with fail
        obtain ⟨W2, hW2⟩ : ∃ W2, w2.alloc (.cells #[.slice (some ⟨g, 0, none⟩) n cap, .slice ac2 n2 cc2] 34) = W2 := ⟨_, rfl⟩
        have hC2 := C2'.out.blk
        rw [hW2] at hcur2 B2' C2' O2 S2 hC2 ⊢
        have cbox : W2.cell? ⟨w2.heap.size, 0, none⟩ = some (.slice (some ⟨g, 0, none⟩) n cap) := hC2.cell 0
        have HW2 := hid hW2
        clear hW2 hC2
        go_loopw [16, 17] (fun want i wr => ∃ (k : Nat) (z : Int), want = .int .i64 z ∧ Hid (z = itN k 65535) ∧ i = .int .i64 k ∧ k ≤ n ∧ W2 = wr) (fun _ i _ => n - (intOf i).toNat)
        case atStart => exact ⟨0, 65535, rfl, hid rfl, rfl, Nat.zero_le _, rfl⟩
        case round =>
          obtain ⟨k, z, rfl, hz, rfl, hk, rfl⟩ := hrel
          have hzr := itN_range k 65535 hid2
          rw [← hz.out] at hzr
          obtain ⟨hz1, hz2⟩ := hzr
          rcases Nat.lt_or_ge k n with hlt | hge
          · have dk : decide ((k : Int) < (n : Int)) = true := decide_eq_true (by omega)
            have hck : W2.cell? ⟨g, k * 24 + 6, none⟩ = some (.int .i64 z) := by rw [hz.out]; exact hcur2.out k hlt
            have hsucc := itN_succ k 65535 hid2
            rw [← hz.out] at hsucc
            by_cases h65 : z = 65535
            · subst h65
              have hnx := hid (show (1 : Int) = itN (k + 1) 65535 by rw [hsucc]; rfl)
              clear hsucc hz
              go_wp2
              go_roundw
              case rel => exact ⟨k + 1, 1, rfl, hnx, by go_num, by omega, trivial⟩
              case measure => simp [intOf]; omega
            · have d65 : decide (65535 < z + 1) = false := decide_eq_false (by omega)
              have hnx := hid (show z + 1 = itN (k + 1) 65535 by rw [hsucc]; omega)
              clear hsucc hz
              go_wp2
              go_roundw
              case rel => exact ⟨k + 1, z + 1, rfl, hnx, by go_num, by omega, trivial⟩
              case measure => simp [intOf]; omega
          · obtain rfl : n = k := by omega
            have dk : decide ((n : Int) < (n : Int)) = false := by simp
            have hn0 : (n : Int) ≠ 0 := by omega
            have qt : t.tmod n = t % n := by rw [Int.tmod_eq_emod_of_nonneg (by omega)]
            have qt1 : 0 ≤ t % n := Int.emod_nonneg _ hn0
            have qt2 : t % n < n := Int.emod_lt_of_pos _ (by omega)
            obtain ⟨k, hk2⟩ : ∃ k : Nat, t % n = k := ⟨(t % n).toNat, by omega⟩
            have hkn : k < n := by omega
            rw [hk2] at qt qt1 qt2
            obtain ⟨z2, hz2e⟩ : ∃ z2, itN k 65535 = z2 := ⟨_, rfl⟩
            have hck : W2.cell? ⟨g, k * 24 + 6, none⟩ = some (.int .i64 z2) := by rw [← hz2e]; exact hcur2.out k hkn
            have hzr2 := itN_range k 65535 hid2
            rw [hz2e] at hzr2
            go_wp2_with fail
            have CH := out_Hear4 O2.out N2.out z2 hzr2
            rw [hp2.out, ← hz2e, iAck 65535 n k hid2 hn20 hkn, iOne_all] at CH
            rw [hz2e] at CH
            refine CH.mono ?_
            clear CH
            rintro e w5 ⟨vp5, vc5, L5, rfl, d5⟩
            have D5 : Hid (DidAt W2 w5 L2 L5 (iOne 65535 n k) vp5 vc5 _ _) := hid d5
            clear d5
            obtain ⟨ap5, cp5, rfl⟩ := own_slice D5.out.packs
            obtain ⟨ac5, cc5, rfl⟩ := own_slice D5.out.chgs
            have hp5 := D5.out.p.trans hp2.out
            have CL := hid fun o => out_Len (D5.out.ob.alloc o)
            have hc1 : ((n - 1 : Nat) : Int) = (n : Int) - 1 := by omega
            rw [hp5, iOne_len 65535 n k hkn, hc1] at CL
            have CP := hid fun o => out_Put (D5.out.ob.alloc o) D5.out.nil [116] [98] 1 false (by decide) (asc 116 (by decide)) (iMayP _ rfl (by simp [iOne]) (by simp [iOne]; omega)) (by rw [iOne_len 65535 n k hkn]; simp [iOne]; omega) (by simp [iOne]; omega)
            rw [hp5, iOne_put] at CP
            have hp5 := hid hp5
            have S5 := hid (S2.out.trans D5.out.stp)
            generalize List.length _ = m5 at D5 CL CP ⊢
            go_wp2_with fail
            refine (CL.out _).mono ?_
            rintro e w5' ⟨rfl, rfl⟩
            go_wp2_with fail
            refine (CP.out _).mono ?_
            clear CP CL
            rintro e w6 ⟨vp6, vc6, L6, rfl, d6⟩
            have D6 := hid d6
            clear d6
            obtain ⟨ap6, cp6, rfl⟩ := own_slice D6.out.packs
            obtain ⟨ac6, cc6, rfl⟩ := own_slice D6.out.chgs
            have hp6 := D6.out.p.trans hp5.out
            have S6 := hid ((S5.out.trans (Stp.below ((Below.refl _ _).alloc (Nat.le_refl _) _))).trans D6.out.stp)
            have CS := hid fun o => out_Send (D6.out.ob.alloc o) D6.out.nil
            rw [hp6] at CS
            have hp6 := hid hp6
            go_wp2_with fail
            refine (CS.out _).mono ?_
            clear CS
            rintro e w7 ⟨vp7, vc7, L7, rfl, d7⟩
            have D7 : Hid (DidAt _ w7 L6 L7 _ vp7 vc7 (iLast 65535 n k).start.all.ps _) := hid d7
            clear d7
            rw [iLast_ps 65535 n k hid2 hn20 hkn] at D7
            obtain ⟨g7, cp7, cur7, rfl, B7, h7⟩ := D7.out.arr
            obtain ⟨ac7, cc7, rfl⟩ := own_slice D7.out.chgs
            have S7 := hid ((S6.out.trans (Stp.below ((Below.refl _ _).alloc (Nat.le_refl _) _))).trans D7.out.stp)
            have b7 : ∀ o, (w7.alloc o).cell? ⟨g7, 6, none⟩ = some (.int .i64 z) := fun o => ((B7.alloc o).blk.cell 6).trans ((h7 6 _ rfl).trans (by rw [hz.out]; rfl))
            have T7 := hid fun o => (D7.out.ob.alloc o).tz
            have F7 := hid fun o => (S7.out.trans (Stp.below ((Below.refl _ w7).alloc (Nat.le_refl _) o))).wrote
            clear h7
            generalize List.length _ = m7 at ⊢
            go_wp2_with fail
            refine (KH.out _ (T7.out _)).mono ?_
            rintro e w8 ⟨rfl, hb8⟩
            go_wp2
            go_ret
            exact ⟨rfl, ((F7.out _).below (Nat.le_refl _) (by simp)).trans (hb8.mono (F7.out _).size)⟩
  · have hid2 : 1 ≤ f ∧ f ≤ 65535 := by omega
    have e0 : (f == 0) = false := by simpa using h0
    go_enter Tryz.func3, Tryz.ntmps3
    go_wp2_with fail
    refine (out_Of 20 50 [99] 0 f w hT (by decide) (by decide) (by decide) hid2 (by decide) (iMay _ hid2)).mono ?_
    rintro e w0 ⟨L0, rfl, hO0, hn0, hS0⟩
    obtain ⟨p, hp⟩ : ∃ p, L0.p = p := ⟨_, rfl⟩
    rw [hp]
    have hO0 := hid hO0
    have hS0 := hid hS0
    have KH := hid known_holds
    go_wp2_with fail
    go_loopw [11] (fun i wr => ∃ (k : Nat) (L : Lay), i = .int .i64 k ∧ k ≤ n ∧ Hid (L.p = p) ∧ Hid (L.vp = .slice none 0 0 ∧ L.vc = .slice none 0 0) ∧ Hid (OB wr wr.heap.size L (iPuts f k) [] []) ∧ Hid (Stp [] L.foot w wr)) (fun i _ => n - (intOf i).toNat)
    case atStart => exact ⟨0, L0, rfl, Nat.zero_le _, hid hp, hid hn0, hO0, hS0⟩
    case round =>
      obtain ⟨k, L, rfl, hk, hLp, hLn, hLO, hLS⟩ := hrel
      rcases Nat.lt_or_ge k n with hlt | hge
      · have dk : decide ((k : Int) < (n : Int)) = true := decide_eq_true (by omega)
        go_wp2_with fail
        have CP := out_Put hLO.out hLn.out [116] [98] 1 false (by decide) (asc 116 (by decide)) (iMayP _ rfl (by simp [iPuts]) (by simp [iPuts]; omega)) (by simp [iPuts]; omega) (by simp [iPuts]; omega)
        rw [hLp.out, iPuts_succ] at CP
        refine CP.mono ?_
        clear CP
        rintro e w1 ⟨vp, vc, L1, rfl, d1⟩
        obtain ⟨ap, cp, rfl⟩ := own_slice d1.packs
        obtain ⟨ac, cc, rfl⟩ := own_slice d1.chgs
        have D1 := hid d1
        clear d1
        go_wp2_with fail
        go_roundw
        case rel => exact ⟨k + 1, L1, by go_num, by omega, hid (D1.out.p.trans hLp.out), hid D1.out.nil, hid (OB.rebase2 (D1.out.ob.alloc _) D1.out.nil), hid ((hLS.out.trans D1.out.stp).trans (Stp.below ((Below.refl _ _).alloc (Nat.le_refl _) _)))⟩
        case measure => simp [intOf]; omega
      · obtain rfl : n = k := by omega
        have dk : decide ((n : Int) < (n : Int)) = false := by simp
        go_wp2_with fail
        have hn20 : n ≤ 20 := by omega
        have hn1 : 1 ≤ n := by omega
        have CS := out_Send hLO.out hLn.out
        rw [hLp.out, iSends f n hid2 hn20] at CS
        refine CS.mono ?_
        clear CS
        rintro e w2 ⟨vp2, vc2, L2, rfl, d2⟩
        have D2 : Hid (DidAt wr w2 L L2 (iAll f n) vp2 vc2 ((List.range n).map fun j => (iSent f j).pub false) ((iMid f n n).fin (iPuts f n).seq (iPuts f n).id).cs) := hid d2
        clear d2
        obtain ⟨g, cap, cur, hv2, B2, hcur⟩ := D2.out.arrN (by simp; omega)
        obtain ⟨ac2, cc2, rfl⟩ := own_slice D2.out.chgs
        generalize ((iMid f n n).fin (iPuts f n).seq (iPuts f n).id).cs.length = n2 at *
        rw [List.length_map, List.length_range] at hv2
        subst hv2
        have hcur2 := hid fun (k : Nat) (hk : k < n) => (B2.alloc (.cells #[.slice (some ⟨g, 0, none⟩) n cap, .slice ac2 n2 cc2] 34)).blk.cell (k * 24 + 6) |>.trans (hcur k ((iSent f k).pub false) (by simp [hk]))
        have hp2 := hid (D2.out.p.trans hLp.out)
        have B2' := hid (B2.alloc (.cells #[.slice (some ⟨g, 0, none⟩) n cap, .slice ac2 n2 cc2] 34))
        have C2' := hid (Kept.box D2.out.ob #[.slice (some ⟨g, 0, none⟩) n cap, .slice ac2 n2 cc2] 34)
        have O2 : Hid (OB _ _ L2 (iAll f n) [] []) := hid (D2.out.ob.alloc (.cells #[.slice (some ⟨g, 0, none⟩) n cap, .slice ac2 n2 cc2] 34))
        have S2 := hid ((hLS.out.trans D2.out.stp).trans (Stp.below ((Below.refl _ _).alloc (Nat.le_refl _) (.cells #[.slice (some ⟨g, 0, none⟩) n cap, .slice ac2 n2 cc2] 34))))
        have N2 := hid D2.out.nil
        clear D2 B2 hcur hLO hLS hLn hLp
        go_wp2_with fail
        obtain ⟨W2, hW2⟩ : ∃ W2, w2.alloc (.cells #[.slice (some ⟨g, 0, none⟩) n cap, .slice ac2 n2 cc2] 34) = W2 := ⟨_, rfl⟩
        have hC2 := C2'.out.blk
        rw [hW2] at hcur2 B2' C2' O2 S2 hC2 ⊢
        have cbox : W2.cell? ⟨w2.heap.size, 0, none⟩ = some (.slice (some ⟨g, 0, none⟩) n cap) := hC2.cell 0
        have HW2 := hid hW2
        clear hW2 hC2
        go_loopw [16, 17] (fun want i wr => ∃ (k : Nat) (z : Int), want = .int .i64 z ∧ Hid (z = itN k f) ∧ i = .int .i64 k ∧ k ≤ n ∧ W2 = wr) (fun _ i _ => n - (intOf i).toNat)
        case atStart => exact ⟨0, f, rfl, hid rfl, rfl, Nat.zero_le _, rfl⟩
        case round =>
          obtain ⟨k, z, rfl, hz, rfl, hk, rfl⟩ := hrel
          have hzr := itN_range k f hid2
          rw [← hz.out] at hzr
          obtain ⟨hz1, hz2⟩ := hzr
          rcases Nat.lt_or_ge k n with hlt | hge
          · have dk : decide ((k : Int) < (n : Int)) = true := decide_eq_true (by omega)
            have hck : W2.cell? ⟨g, k * 24 + 6, none⟩ = some (.int .i64 z) := by rw [hz.out]; exact hcur2.out k hlt
            have hsucc := itN_succ k f hid2
            rw [← hz.out] at hsucc
            by_cases h65 : z = 65535
            · subst h65
              have hnx := hid (show (1 : Int) = itN (k + 1) f by rw [hsucc]; rfl)
              clear hsucc hz
              go_wp2
              go_roundw
              case rel => exact ⟨k + 1, 1, rfl, hnx, by go_num, by omega, trivial⟩
              case measure => simp [intOf]; omega
            · have d65 : decide (65535 < z + 1) = false := decide_eq_false (by omega)
              have hnx := hid (show z + 1 = itN (k + 1) f by rw [hsucc]; omega)
              clear hsucc hz
              go_wp2
              go_roundw
              case rel => exact ⟨k + 1, z + 1, rfl, hnx, by go_num, by omega, trivial⟩
              case measure => simp [intOf]; omega
          · obtain rfl : n = k := by omega
            have dk : decide ((n : Int) < (n : Int)) = false := by simp
            have hn0 : (n : Int) ≠ 0 := by omega
            have qt : t.tmod n = t % n := by rw [Int.tmod_eq_emod_of_nonneg (by omega)]
            have qt1 : 0 ≤ t % n := Int.emod_nonneg _ hn0
            have qt2 : t % n < n := Int.emod_lt_of_pos _ (by omega)
            obtain ⟨k, hk2⟩ : ∃ k : Nat, t % n = k := ⟨(t % n).toNat, by omega⟩
            have hkn : k < n := by omega
            rw [hk2] at qt qt1 qt2
            obtain ⟨z2, hz2e⟩ : ∃ z2, itN k f = z2 := ⟨_, rfl⟩
            have hck : W2.cell? ⟨g, k * 24 + 6, none⟩ = some (.int .i64 z2) := by rw [← hz2e]; exact hcur2.out k hkn
            have hzr2 := itN_range k f hid2
            rw [hz2e] at hzr2
            go_wp2_with fail
            have CH := out_Hear4 O2.out N2.out z2 hzr2
            rw [hp2.out, ← hz2e, iAck f n k hid2 hn20 hkn, iOne_all] at CH
            rw [hz2e] at CH
            refine CH.mono ?_
            clear CH
            rintro e w5 ⟨vp5, vc5, L5, rfl, d5⟩
            have D5 : Hid (DidAt W2 w5 L2 L5 (iOne f n k) vp5 vc5 _ _) := hid d5
            clear d5
            obtain ⟨ap5, cp5, rfl⟩ := own_slice D5.out.packs
            obtain ⟨ac5, cc5, rfl⟩ := own_slice D5.out.chgs
            have hp5 := D5.out.p.trans hp2.out
            have CL := hid fun o => out_Len (D5.out.ob.alloc o)
            have hc1 : ((n - 1 : Nat) : Int) = (n : Int) - 1 := by omega
            rw [hp5, iOne_len f n k hkn, hc1] at CL
            have CP := hid fun o => out_Put (D5.out.ob.alloc o) D5.out.nil [116] [98] 1 false (by decide) (asc 116 (by decide)) (iMayP _ rfl (by simp [iOne]) (by simp [iOne]; omega)) (by rw [iOne_len f n k hkn]; simp [iOne]; omega) (by simp [iOne]; omega)
            rw [hp5, iOne_put] at CP
            have hp5 := hid hp5
            have S5 := hid (S2.out.trans D5.out.stp)
            generalize List.length _ = m5 at D5 CL CP ⊢
            go_wp2_with fail
            refine (CL.out _).mono ?_
            rintro e w5' ⟨rfl, rfl⟩
            go_wp2_with fail
            refine (CP.out _).mono ?_
            clear CP CL
            rintro e w6 ⟨vp6, vc6, L6, rfl, d6⟩
            have D6 := hid d6
            clear d6
            obtain ⟨ap6, cp6, rfl⟩ := own_slice D6.out.packs
            obtain ⟨ac6, cc6, rfl⟩ := own_slice D6.out.chgs
            have hp6 := D6.out.p.trans hp5.out
            have S6 := hid ((S5.out.trans (Stp.below ((Below.refl _ _).alloc (Nat.le_refl _) _))).trans D6.out.stp)
            have CS := hid fun o => out_Send (D6.out.ob.alloc o) D6.out.nil
            rw [hp6] at CS
            have hp6 := hid hp6
            go_wp2_with fail
            refine (CS.out _).mono ?_
            clear CS
            rintro e w7 ⟨vp7, vc7, L7, rfl, d7⟩
            have D7 : Hid (DidAt _ w7 L6 L7 _ vp7 vc7 (iLast f n k).start.all.ps _) := hid d7
            clear d7
            rw [iLast_ps f n k hid2 hn20 hkn] at D7
            obtain ⟨g7, cp7, cur7, rfl, B7, h7⟩ := D7.out.arr
            obtain ⟨ac7, cc7, rfl⟩ := own_slice D7.out.chgs
            have S7 := hid ((S6.out.trans (Stp.below ((Below.refl _ _).alloc (Nat.le_refl _) _))).trans D7.out.stp)
            have b7 : ∀ o, (w7.alloc o).cell? ⟨g7, 6, none⟩ = some (.int .i64 z) := fun o => ((B7.alloc o).blk.cell 6).trans ((h7 6 _ rfl).trans (by rw [hz.out]; rfl))
            have T7 := hid fun o => (D7.out.ob.alloc o).tz
            have F7 := hid fun o => (S7.out.trans (Stp.below ((Below.refl _ w7).alloc (Nat.le_refl _) o))).wrote
            clear h7
            generalize List.length _ = m7 at ⊢
            go_wp2_with fail
            refine (KH.out _ (T7.out _)).mono ?_
            rintro e w8 ⟨rfl, hb8⟩
            go_wp2
            go_ret
            exact ⟨rfl, ((F7.out _).below (Nat.le_refl _) (by simp)).trans (hb8.mono (F7.out _).size)⟩
end Go.Proofs.YtodbdojjllabmaaGreatDoor
