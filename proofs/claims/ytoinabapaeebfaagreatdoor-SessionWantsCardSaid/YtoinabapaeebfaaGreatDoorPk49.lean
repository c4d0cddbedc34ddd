/- The reference of layer 13: Levels, Filter. · SessionWants: what is known of the filters, plainly. -/
import Derived.Test.YtoinabapaeebfaaGreatDoorPk48
import Derived.Test.YtoinabapaeebfaaGreatDoorPk41
import Derived.Test.YtoinabapaeebfaaGreatDoorPk43
import Derived.Laws.Cover1
import Derived.Sort.Walk0
set_option linter.unusedSimpArgs false
set_option linter.unusedVariables false
namespace Go.Proofs.YtoinabapaeebfaaGreatDoor
open Go.RowKit Go.Shelf

set_option maxRecDepth 100000 in
set_option maxHeartbeats 2000000 in
theorem r13_Levels (s : List UInt8) (w : World) (hs : s.length ≤ 1000000) :
    Calls Tryz.prog 67 #[.string ⟨s.toArray⟩] w fun e w' => ∃ v, e = .returned v ∧ w'.ownsRow w.heap.size 9 1 v (levelsL s).length ((levelsL s).map wStr) ∧ Below w.heap.size w w' := by
  have hsz : ByteArray.size ⟨s.toArray⟩ = s.length := by simp [ByteArray.size]
  have h0 : Hid ((w.alloc (.cells #[.string ⟨#[]⟩] 9)).ownsRow w.heap.size 9 1 (.slice (some ⟨w.heap.size, 0, none⟩) 1 1) (levelsL (s.take 0)).length ((levelsL (s.take 0)).map wStr)) := hid (World.ownsRow_lit w #[.string ⟨#[]⟩] 1 (Nat.le_refl _) (by decide) rfl)
  have hb0 := hid ((Below.refl w.heap.size w).alloc (Nat.le_refl _) (.cells #[.string ⟨#[]⟩] 9))
  go_enter Tryz.func67, Tryz.ntmps67
  go_wp2
  go_loopw [3, 4] (fun v i wr => ∃ k : Nat, i = .int .i64 k ∧ k ≤ s.length ∧ Hid (wr.ownsRow w.heap.size 9 1 v (levelsL (s.take k)).length ((levelsL (s.take k)).map wStr)) ∧ Hid (Below w.heap.size w wr)) (fun _ i _ => s.length - (intOf i).toNat)
  case atStart => exact ⟨0, rfl, Nat.zero_le _, h0, hb0⟩
  case round =>
    obtain ⟨k, rfl, hk, hr, hb⟩ := hrel
    rcases Nat.lt_or_ge k s.length with hlt | hge
    · have dk : decide ((k : Int) < (s.length : Int)) = true := decide_eq_true (by omega)
      obtain ⟨b, hsb⟩ : ∃ b, s[k]? = some b := ⟨_, List.getElem?_eq_getElem hlt⟩
      have hstep := levelsL_take s k b hsb
      have hbd := levelsL_bound (s.take k)
      have hne := levelsL_ne (s.take k)
      obtain ⟨a, c, hv⟩ := own_slice hr.out
      subst hv
      have hix : ∀ h, (⟨s.toArray⟩ : ByteArray)[k]'h = b := fun h => by
        have : s[k]'hlt = b := (List.getElem?_eq_some_iff.1 hsb).2
        exact this
      have hbl := hbd.1
      rw [List.length_take] at hbl
      have hstep := hid hstep
      have hne := hid hne
      have hbx := hid hbd.2
      have hsz := hid hsz
      clear hbd
      obtain ⟨ls, hls⟩ : ∃ ls, levelsL (s.take k) = ls := ⟨_, rfl⟩
      rw [hls] at hr hbl hstep hne hbx ⊢
      have hls := hid hls
      by_cases h47 : b = 47
      · have e1 : (((b.toNat : Nat) : Int) == 47) = true := by rw [h47]; rfl
        go_wp2_with (at_builtin; refine append_grp rfl _ _ rfl eStr (by decide) w.heap.size _ _ _ rfl (ownsRow_below hr.out ((Below.refl wr.heap.size wr).alloc (Nat.le_refl _) (.cells #[.string ⟨#[]⟩] 9))) wr.heap.size [.string ⟨#[]⟩] 9 rfl (Blk.new wr _ _) rfl (by simp [Value.oneCell']) (by omega) (by omega) (by have := hb.out.size; simp; omega) ?_; intro v4 w4 r4 g4 n4; have r4 := hid r4; have hb4 := hid ((hb.out.alloc hb.out.size (.cells #[.string ⟨#[]⟩] 9)).grown g4 (by have := hb.out.size; simp; omega) (fun j e => (hr.out.lt j e).1)))
        go_roundw
        case rel =>
          refine ⟨k + 1, by go_num, by omega, ?_, hb4⟩
          rw [hstep.out]
          unfold lvlStep
          rw [if_pos h47]
          exact hid (by simpa [wStr] using r4.out)
        case measure => simp [intOf]; omega
      · have e1 : (((b.toNat : Nat) : Int) == 47) = false := by
          rw [beq_eq_false_iff_ne]
          intro h
          exact h47 (UInt8.toNat_inj.1 (show b.toNat = 47 by omega))
        obtain ⟨pre, x, hpx⟩ : ∃ pre x, ls = pre ++ [x] := ⟨ls.dropLast, ls.getLast hne.out, (List.dropLast_concat_getLast hne.out).symm⟩
        subst hpx
        obtain ⟨m, hm⟩ : ∃ m, pre.length = m := ⟨_, rfl⟩
        have hlen : (pre ++ [x]).length = m + 1 := by simp [hm]
        rw [hlen] at hr hbl ⊢
        obtain ⟨_, _, hve, hvc⟩ := own_cell hr.out
        obtain ⟨rfl, rfl⟩ : a = _ ∧ c = _ := by simpa using hve
        obtain ⟨g, hag, hcg⟩ := hvc m (wStr x) (by simp [hm])
        subst hag
        have hxl : x.length ≤ 1000000 := by have := hbx.out x (by simp); rw [List.length_take] at this; omega
        have hov : ¬ 9223372036854775807 < x.length + (min (k + 1) s.length - k) := by omega
        have hcat : (⟨x.toArray⟩ : ByteArray) ++ (⟨s.toArray⟩ : ByteArray).extract k (k + 1) = ⟨(x ++ [b]).toArray⟩ := by
          have he : (⟨s.toArray⟩ : ByteArray).extract k (k + 1) = ⟨[b].toArray⟩ := by
            have h1 : s.extract k (k + 1) = [b] := by
              rw [List.extract_eq_take_drop]
              have h2 := (List.getElem?_eq_some_iff.1 hsb).2
              rw [show k + 1 - k = 1 by omega, List.drop_eq_getElem_cons hlt, h2]
              rfl
            apply ByteArray.ext
            simp [ByteArray.data_extract, h1]
          rw [he, str_app]
        have hst1 := hid (hr.out.stored m (.string ⟨(x ++ [b]).toArray⟩))
        have hfz : wr.frozen? ⟨g, m, none⟩ = false := hr.out.frozenAt m
        replace hcg : wr.cell? ⟨g, m, none⟩ = some (.string ⟨x.toArray⟩) := hcg
        have hgl : w.heap.size ≤ g := (hr.out.lt g rfl).1
        clear hve hvc hlen
        go_wp2_with fail
        refine regionQ [(17, fun w' => w'.cell? ⟨g, m, none⟩ = some (.string ⟨x.toArray⟩))] (by kernel_rfl) ⟨by go_simp, trivial⟩ fun KQ hKQ => ?_
        refine takeQ 0 rfl (by kernel_rfl) rfl (by kernel_rfl) fun K hK => ?_
        simp only [List.getElem_toArray, List.getElem_cons_zero, List.getElem_cons_succ]
        go_big_quiet_op
        refine hK _ ?_
        clear hK K
        refine takeQ 1 rfl (by kernel_rfl) rfl (by kernel_rfl) fun K hK => ?_
        simp only [List.getElem_toArray, List.getElem_cons_zero, List.getElem_cons_succ]
        go_big_quiet_op
        refine hK _ ?_
        clear hK K
        refine takeQ 2 rfl (by kernel_rfl) rfl (by kernel_rfl) fun K hK => ?_
        simp only [List.getElem_toArray, List.getElem_cons_zero, List.getElem_cons_succ]
        go_big_quiet_op
        refine hK _ ?_
        clear hK K
        refine takeQ 3 rfl (by kernel_rfl) rfl (by kernel_rfl) fun K hK => ?_
        simp only [List.getElem_toArray, List.getElem_cons_zero, List.getElem_cons_succ]
        go_big_quiet_op
        refine hK _ ?_
        clear hK K
        refine takeQ 4 rfl (by kernel_rfl) rfl (by kernel_rfl) fun K hK => ?_
        simp only [List.getElem_toArray, List.getElem_cons_zero, List.getElem_cons_succ]
        go_big_quiet_op
        refine hK _ ?_
        clear hK K
        refine takeQ 5 rfl (by kernel_rfl) rfl (by kernel_rfl) fun K hK => ?_
        simp only [List.getElem_toArray, List.getElem_cons_zero, List.getElem_cons_succ]
        go_big_quiet_op
        refine hK _ ?_
        clear hK K
        refine takeQ 6 rfl (by kernel_rfl) rfl (by kernel_rfl) fun K hK => ?_
        simp only [List.getElem_toArray, List.getElem_cons_zero, List.getElem_cons_succ]
        go_big_quiet_op
        refine hK _ ?_
        clear hK K
        refine takeQ 7 rfl (by kernel_rfl) rfl (by kernel_rfl) fun K hK => ?_
        simp only [List.getElem_toArray, List.getElem_cons_zero, List.getElem_cons_succ]
        go_big_quiet_op
        refine hK _ ?_
        clear hK K
        refine takeQ 8 rfl (by kernel_rfl) rfl (by kernel_rfl) fun K hK => ?_
        simp only [List.getElem_toArray, List.getElem_cons_zero, List.getElem_cons_succ]
        go_big_quiet_op
        refine hK _ ?_
        clear hK K
        refine loadQ 9 rfl (by kernel_rfl) (by kernel_rfl) rfl rfl 0 rfl (by kernel_rfl) (.string ⟨x.toArray⟩) (fun w' hf => by (go_simp <;> with_reducible rfl)) ?_
        simp only [Act.put, List.getElem_toArray, List.getElem_cons_zero, List.getElem_cons_succ, List.setIfInBounds_toArray, List.set_cons_zero, List.set_cons_succ]
        refine takeQ 10 rfl (by kernel_rfl) rfl (by kernel_rfl) fun K hK => ?_
        simp only [List.getElem_toArray, List.getElem_cons_zero, List.getElem_cons_succ]
        go_big_quiet_op
        refine hK _ ?_
        clear hK K
        refine takeQ 11 rfl (by kernel_rfl) rfl (by kernel_rfl) fun K hK => ?_
        simp only [List.getElem_toArray, List.getElem_cons_zero, List.getElem_cons_succ]
        go_big_quiet_op
        refine hK _ ?_
        clear hK K
        refine takeQ 12 rfl (by kernel_rfl) rfl (by kernel_rfl) fun K hK => ?_
        simp only [List.getElem_toArray, List.getElem_cons_zero, List.getElem_cons_succ]
        go_big_quiet_op
        refine hK _ ?_
        clear hK K
        refine takeQ 13 rfl (by kernel_rfl) rfl (by kernel_rfl) fun K hK => ?_
        simp only [List.getElem_toArray, List.getElem_cons_zero, List.getElem_cons_succ]
        go_big_quiet_op
        refine hK _ ?_
        clear hK K
        refine takeQ 14 rfl (by kernel_rfl) rfl (by kernel_rfl) fun K hK => ?_
        simp only [List.getElem_toArray, List.getElem_cons_zero, List.getElem_cons_succ]
        go_big_quiet_op
        refine hK _ ?_
        clear hK K
        refine takeQ 15 rfl (by kernel_rfl) rfl (by kernel_rfl) fun K hK => ?_
        simp only [List.getElem_toArray, List.getElem_cons_zero, List.getElem_cons_succ]
        go_big_quiet_op
        refine hK _ ?_
        clear hK K
        refine takeQ 16 rfl (by kernel_rfl) rfl (by kernel_rfl) fun K hK => ?_
        simp only [List.getElem_toArray, List.getElem_cons_zero, List.getElem_cons_succ]
        go_big_quiet_op
        refine hK _ ?_
        clear hK K
        refine stepQ 17 rfl (by kernel_rfl) (by decide) (by kernel_rfl) fun K hK => ?_
        simp only [List.getElem_toArray, List.getElem_cons_zero, List.getElem_cons_succ]
        go_simp
        refine hK _ _ ⟨⟨(fun h => by cases h), trivial⟩, ?_⟩
        clear hK K
        refine doneQ (by kernel_rfl) (hKQ.out _ _ ?_)
        clear hKQ KQ
        go_wp2_with fail
        go_roundw
        case rel =>
          have hB1 := Below.setCell hb.out (p := ⟨g, m, none⟩) hgl (.string ⟨(x ++ [b]).toArray⟩)
          refine ⟨k + 1, by go_num, by omega, ?_, hid hB1.drew⟩
          rw [hstep.out]
          unfold lvlStep
          rw [if_neg h47, List.dropLast_concat, List.getLast?_concat]
          have h2 := ownsRow_below hst1.out.1 ((Below.refl _ _).drew)
          have e2 : (List.map wStr (pre ++ [x])).set m (.string ⟨(x ++ [b]).toArray⟩) = List.map wStr (pre ++ [x ++ [b]]) := by
            rw [← hm]
            simp [wStr]
          rw [e2] at h2
          have e3 : (pre ++ [(some x).getD [] ++ [b]]).length = m + 1 := by simp [hm]
          rw [e3]
          exact hid h2
        case measure => simp [intOf]; omega
    · obtain rfl : k = s.length := by omega
      have dk : decide ((s.length : Int) < (s.length : Int)) = false := by simp
      rw [List.take_length] at hr
      go_wp2
      go_ret
      exact ⟨_, rfl, hr.out, hb.out⟩


set_option maxRecDepth 100000 in
set_option maxHeartbeats 2000000 in
theorem r13_Filter (s : List UInt8) (w : World) (hs : s.length ≤ 1000000) :
    Calls Tryz.prog 30 #[.string ⟨s.toArray⟩] w fun e w' => e = .returned (.bool (filterR s)) ∧ Below w.heap.size w w' := by
  have CD := hid fun W => r13_said s W hs
  have CL := hid fun W => r13_Levels s W hs
  rcases hsd : saidR s with _ | _
  · rw [hsd] at CD
    have hF : filterR s = false := by unfold filterR; rw [hsd, Bool.and_false]
    have hF := hid hF
    go_enter Tryz.func30, Tryz.ntmps30
    go_wp2_with (go_at_call 66; refine (CD.out _).mono ?_; rintro e w1 ⟨rfl, hb1⟩)
    go_ret
    exact ⟨by rw [hF.out]; rfl, hb1⟩
  rw [hsd] at CD
  have hF : filterR s = filterL (levelsB s) (levelsB s).length := by unfold filterR; rw [hsd, Bool.and_true]
  rw [hF]
  have hlb := levelsB_len s
  have hleq := congrArg List.length (levelsL_eq s)
  rw [List.length_map] at hleq
  have hget := lvl_L s
  have hbd := levelsL_bound s
  obtain ⟨ps, hps⟩ : ∃ ps, levelsB s = ps := ⟨_, rfl⟩
  rw [hps] at hleq hget hlb ⊢
  obtain ⟨n, hn⟩ : ∃ n, ps.length = n := ⟨_, rfl⟩
  rw [hn] at hleq hget hlb ⊢
  obtain ⟨ls, hls⟩ : ∃ ls, levelsL s = ls := ⟨_, rfl⟩
  rw [hls] at hleq hget hbd CL
  have hget := hid hget
  have hbd := hid hbd.2
  have hn0 := hid hn
  replace hleq := hid hleq.symm
  clear hF hsd hps hls hn
  go_enter Tryz.func30, Tryz.ntmps30
  go_wp2_with (first
    | (go_at_call 66; refine (CD.out _).mono ?_; rintro e w1 ⟨rfl, hb1⟩)
    | (go_at_call 67; refine (CL.out _).mono ?_; rintro e w2 ⟨v, rfl, hr2, hb2⟩))
  rw [hleq.out] at hr2
  have hr0 := hid (ownsRow_mono (base' := w.heap.size) hr2 hb1.size)
  have hb0 := hid (hb1.trans (hb2.mono hb1.size))
  obtain ⟨a, c, rfl⟩ := own_slice hr2
  clear hb1 hb2 hr2
  go_loopw [4] (fun i wr => ∃ k : Nat, i = .int .i64 k ∧ k ≤ n ∧ filterL ps k = true ∧ Hid (wr.ownsRow w.heap.size 9 1 (.slice a n c) n (ls.map wStr)) ∧ Hid (Below w.heap.size w wr)) (fun i _ => n - (intOf i).toNat)
  case atStart => exact ⟨0, rfl, Nat.zero_le _, rfl, hr0, hb0⟩
  case round =>
    obtain ⟨k, rfl, hk, hfk, hr, hb⟩ := hrel
    rcases Nat.lt_or_ge k n with hlt | hge
    · have dk : decide ((k : Int) < (n : Int)) = true := decide_eq_true (by omega)
      have hg := hget.out k hlt
      obtain ⟨l, hl⟩ : ∃ l, (lvl ps k).data.toList = l := ⟨_, rfl⟩
      have hll := hbd.out l (by rw [← hl]; exact List.mem_of_getElem? hg)
      have hsucc := filterL_succ ps k
      have hbad := filterL_bad ps k n hlt
      rw [hl] at hg hsucc hbad
      rw [hn0.out, hfk, Bool.true_and] at hsucc
      rw [hn0.out] at hbad
      have hsg := signs_any l
      have CS := hid fun W => r13_signs l W (by omega)
      obtain ⟨_, _, hve, hvc⟩ := own_cell hr.out
      obtain ⟨rfl, rfl⟩ : a = _ ∧ c = _ := by simpa using hve
      obtain ⟨g, hag, hcg⟩ := hvc k (wStr l) (by rw [List.getElem?_map, hg]; rfl)
      subst hag
      unfold wStr at hcg
      obtain ⟨x, hx⟩ : ∃ x : ByteArray, (⟨l.toArray⟩ : ByteArray) = x := ⟨_, rfl⟩
      rw [hx] at hcg CS
      obtain ⟨bl, hbl⟩ : ∃ b, decide (k + 1 = n) = b := ⟨_, rfl⟩
      obtain ⟨ba, hba⟩ : ∃ b, anyR l = b := ⟨_, rfl⟩
      obtain ⟨b1', hb1⟩ : ∃ b, decide (l = [43]) = b := ⟨_, rfl⟩
      obtain ⟨b2', hb2⟩ : ∃ b, decide (l = [35]) = b := ⟨_, rfl⟩
      have e1 : b1' = true ↔ x = ⟨#[43]⟩ := by rw [← hb1, ← hx]; simp
      have e2 : b2' = true ↔ x = ⟨#[35]⟩ := by rw [← hb2, ← hx]; simp
      unfold lvlOK at hsucc hbad
      simp only [hbl, hba, hb1, hb2] at hsucc hbad hsg
      obtain ⟨sg, hsgv⟩ : ∃ sg, signsR l = sg := ⟨_, rfl⟩
      rw [hsgv] at hsg CS
      obtain ⟨sz, hsz⟩ : ∃ sz : Int, ((sg : Nat) : Int) = sz := ⟨_, rfl⟩
      have hsz0 : 0 ≤ sz := by omega
      have hsg : (sz = 0) ↔ (ba = false) := by rw [← hsz]; cases ba <;> simp at hsg ⊢ <;> omega
      rw [hsz] at CS
      clear hsz hsgv
      have hlast : ((k : Int) == (n : Int) - 1) = bl := by
        rw [← hbl, Bool.eq_iff_iff]; simp; omega
      clear hb1 hb2 hba hbl hve hvc hx hg hl hll
      have hsucc := hid hsucc
      have hbad := hid hbad
      rcases ba with _ | _
      · have dsg : decide (0 < sz) = false := decide_eq_false (by have := hsg.2 rfl; omega)
        clear hsg e1 e2
        go_wp2_with (go_at_call 68; refine (CS.out _).mono ?_; rintro e w3 ⟨rfl, rfl⟩)
        go_roundw
        case rel => exact ⟨k + 1, by go_num, by omega, by rw [hsucc.out]; simp, hr, hb⟩
        case measure => simp [intOf]; omega
      · have dsg : decide (0 < sz) = true := decide_eq_true (by have h0 : sz ≠ 0 := fun h => Bool.noConfusion (hsg.1 h); omega)
        clear hsg
        rcases b1' with _ | _
        · have h1 : ¬ x = ⟨#[43]⟩ := fun h => by have := e1.2 h; cases this
          have i1 : ¬ x.toList = [43] := fun h => h1 (toList_inj (by rw [h]; exact (ByteArray.toList_mk [43]).symm))
          have g1' : (x.toList == [43]) = false := by simpa using i1
          rcases b2' with _ | _
          · have h2 : ¬ x = ⟨#[35]⟩ := fun h => by have := e2.2 h; cases this
            have i2 : ¬ x.toList = [35] := fun h => h2 (toList_inj (by rw [h]; exact (ByteArray.toList_mk [35]).symm))
            have g2' : (x.toList == [35]) = false := by simpa using i2
            clear e1 e2
            go_wp2_with (go_at_call 68; refine (CS.out _).mono ?_; rintro e w3 ⟨rfl, rfl⟩)
            go_ret
            exact ⟨by rw [hbad.out rfl]; rfl, hb.out⟩
          · have h2 := e2.1 rfl
            clear e1 e2 h1 i1 g1'
            subst h2
            rcases bl with _ | _
            · skip
              go_wp2_with (go_at_call 68; refine (CS.out _).mono ?_; rintro e w3 ⟨rfl, rfl⟩)
              go_ret
              exact ⟨by rw [hbad.out rfl]; rfl, hb.out⟩
            · skip
              go_wp2_with (go_at_call 68; refine (CS.out _).mono ?_; rintro e w3 ⟨rfl, rfl⟩)
              go_roundw
              case rel => exact ⟨k + 1, by go_num, by omega, by rw [hsucc.out]; simp, hr, hb⟩
              case measure => simp [intOf]; omega
        · have h1 := e1.1 rfl
          clear e1 e2
          subst h1
          go_wp2_with (go_at_call 68; refine (CS.out _).mono ?_; rintro e w3 ⟨rfl, rfl⟩)
          go_roundw
          case rel => exact ⟨k + 1, by go_num, by omega, by rw [hsucc.out]; simp, hr, hb⟩
          case measure => simp [intOf]; omega
    · obtain rfl : k = n := by omega
      have dk : decide ((k : Int) < (k : Int)) = false := by simp
      go_wp2
      go_ret
      exact ⟨by rw [hfk]; rfl, hb.out⟩
end Go.Proofs.YtoinabapaeebfaaGreatDoor
namespace Go.Proofs.YtoinabapaeebfaaGreatDoor
open Go.RowKit Go.Shelf Go.Sort

theorem bless (a b : List UInt8) : Op.bytesLess (ByteArray.toList ⟨a.toArray⟩) (ByteArray.toList ⟨b.toArray⟩) = decide (a < b) := by
  rw [show ByteArray.toList ⟨a.toArray⟩ = a from ByteArray.toList_mk a, show ByteArray.toList ⟨b.toArray⟩ = b from ByteArray.toList_mk b, bytesLess_eq]
theorem ins_same {l : WL} {k : List UInt8} {v : Int} (hn : (l.map Prod.fst).Nodup) (h : look l k = some v) : ins l k v = l := by
  unfold ins
  rw [h, Option.isSome_some, if_pos rfl]
  have hm := (look_some hn).1 h
  refine (List.map_congr_left fun p hp => ?_).trans (List.map_id l)
  split
  · rename_i hk
    have : p = (k, v) := by
      have h1 : look l p.1 = some p.2 := (look_some hn).2 hp
      rw [hk, h] at h1
      cases p
      simp at h1 hk ⊢
      exact ⟨hk, h1.symm⟩
    rw [this]; rfl
  · rfl
theorem mem_ins {l : WL} {k : List UInt8} {v : Int} {p : List UInt8 × Int} (h : p ∈ ins l k v) : p.1 = k ∨ p ∈ l := by
  unfold ins at h
  split at h
  · obtain ⟨q, hq, rfl⟩ := List.mem_map.1 h
    split
    · rename_i hk; exact .inl hk
    · exact .inr hq
  · rcases List.mem_append.1 h with h | h
    · exact .inr h
    · simp at h; exact .inl (by rw [h])
def wX (l : WL) : XS := { lX0 with wants := l }
theorem wC : clientR [99] = true := by kernel_rfl
theorem wSub (l : WL) (f : List UInt8) (q : Int) (hq : 0 ≤ q ∧ q ≤ 2) : subMay ((wX l).sub f q) = filterR f := by
  unfold subMay XS.sub wX lX0 XS.new
  simp only [wC, Bool.true_and]
  simp [hq.1, hq.2]
theorem filter_len {f : List UInt8} (h : filterR f = true) : f.length ≤ 200 := by
  unfold filterR saidR at h
  simp at h
  omega
/-- What is left when the first k keys are gone. -/
def leftW (l : WL) (k : Nat) : WL := l.filter fun p => decide (p.1 ∉ (sortK l).take k)
theorem leftW_zero (l : WL) : leftW l 0 = l := by
  unfold leftW
  rw [List.filter_eq_self]
  simp
theorem leftW_all (l : WL) : leftW l l.length = [] := by
  unfold leftW
  rw [List.filter_eq_nil_iff]
  intro p hp
  have hlen : (sortK l).length = l.length := by rw [(sortK_perm l).length_eq, List.length_map]
  rw [List.take_of_length_le (by omega)]
  have : p.1 ∈ sortK l := (sortK_perm l).mem_iff.2 (List.mem_map_of_mem (f := Prod.fst) hp)
  simp [this]
theorem leftW_nodup {l : WL} (hn : (l.map Prod.fst).Nodup) (k : Nat) : ((leftW l k).map Prod.fst).Nodup := hn.sublist (List.Sublist.map _ List.filter_sublist)
theorem leftW_len (l : WL) (k : Nat) : (leftW l k).length ≤ l.length := List.length_filter_le _ _
theorem leftW_mem {l : WL} {k : Nat} {p : List UInt8 × Int} (h : p ∈ leftW l k) : p ∈ l := (List.mem_filter.1 h).1
theorem leftW_look {l : WL} (hn : (l.map Prod.fst).Nodup) {k : Nat} {p : List UInt8 × Int} (hp : (sortW l)[k]? = some p) : look (leftW l k) p.1 = some p.2 ∧ look l p.1 = some p.2 := by
  have hm : p ∈ l := (sortW_mem hn).1 (List.mem_of_getElem? hp)
  refine ⟨(look_some (leftW_nodup hn k)).2 (List.mem_filter.2 ⟨hm, ?_⟩), (look_some hn).2 hm⟩
  have hk : (sortK l)[k]? = some p.1 := by
    unfold sortW at hp
    rw [List.getElem?_map] at hp
    cases hs : (sortK l)[k]? with
    | none => rw [hs] at hp; cases hp
    | some x => rw [hs] at hp; cases hp; rfl
  have hnd : (sortK l).Nodup := (sortK_perm l).nodup_iff.2 hn
  simp only [decide_eq_true_eq]
  intro ht
  obtain ⟨j, hj⟩ := List.getElem?_of_mem ht
  rw [List.getElem?_take] at hj
  split at hj
  · have := (List.getElem?_inj (List.getElem?_eq_some_iff.1 hj).1 hnd).1 (hj.trans hk.symm)
    omega
  · cases hj
theorem leftW_del {l : WL} {k : Nat} {p : List UInt8 × Int} (hp : (sortW l)[k]? = some p) : del (leftW l k) p.1 = leftW l (k + 1) := by
  have hk : (sortK l)[k]? = some p.1 := by
    unfold sortW at hp
    rw [List.getElem?_map] at hp
    cases hs : (sortK l)[k]? with
    | none => rw [hs] at hp; cases hp
    | some x => rw [hs] at hp; cases hp; rfl
  unfold del leftW
  rw [List.filter_filter]
  congr 1
  funext q
  rw [List.take_add_one, hk, Bool.eq_iff_iff]
  simp
  constructor
  · rintro ⟨h1, h2⟩; exact ⟨h2, h1⟩
  · rintro ⟨h1, h2⟩; exact ⟨h2, h1⟩
theorem sortW_lt {l : WL} (hn : (l.map Prod.fst).Nodup) {j : Nat} {p q : List UInt8 × Int} (hp : (sortW l)[j]? = some p) (hq : (sortW l)[j + 1]? = some q) : p.1 < q.1 := by
  have hk : ∀ (k : Nat) (p : List UInt8 × Int), (sortW l)[k]? = some p → (sortK l)[k]? = some p.1 := fun k p hp => by
    unfold sortW at hp
    rw [List.getElem?_map] at hp
    cases hs : (sortK l)[k]? with
    | none => rw [hs] at hp; cases hp
    | some x => rw [hs] at hp; cases hp; rfl
  have h1 := List.getElem?_eq_some_iff.1 (hk j p hp)
  have h2 := List.getElem?_eq_some_iff.1 (hk (j + 1) q hq)
  obtain ⟨a1, a2⟩ := h1
  obtain ⟨b1, b2⟩ := h2
  rw [← a2, ← b2]
  exact List.pairwise_iff_getElem.1 (sortK_lt hn) j (j + 1) a1 b1 (by omega)
theorem subC_len (cl : List UInt8) (p : List UInt8 × Int) : (subC cl p).length = 3 := rfl
end Go.Proofs.YtoinabapaeebfaaGreatDoor
