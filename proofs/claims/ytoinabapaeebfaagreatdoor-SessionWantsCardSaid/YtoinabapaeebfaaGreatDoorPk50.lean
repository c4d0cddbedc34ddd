/- The walk of SessionWants. -/
import Derived.Test.YtoinabapaeebfaaGreatDoorPk49
set_option linter.unusedSimpArgs false
set_option linter.unusedVariables false
namespace Go.Proofs.YtoinabapaeebfaaGreatDoor
open Go.RowKit Go.Shelf Go.Sort

/-- Between the rounds of the first loop. -/
structure WSt (w W : World) (S : XLay) (m : Nat) (l lh : WL) : Prop where
  xb : XB W W.heap.size S (wX l)
  stp : Stp [] S.foot w W
  wm : WM W m lh
  fil : ∀ q ∈ l, filterR q.1 = true
theorem WSt.below {w W W' : World} {S : XLay} {m : Nat} {l lh : WL} (h : WSt w W S m l lh) (hb : Below W.heap.size W W') : WSt w W' S m l lh := ⟨(h.xb.below hb).top, h.stp.trans (Stp.below hb), h.wm.below hb, h.fil⟩
theorem WSt.bel {w W : World} {S : XLay} {m : Nat} {l lh : WL} (h : WSt w W S m l lh) : Below w.heap.size w W := h.stp.wrote.below (Nat.le_refl _) (by simp)
theorem WSt.short {w W : World} {S : XLay} {m : Nat} {l lh : WL} (h : WSt w W S m l lh) : (l.length : Int) ≤ 3 := h.xb.ok.wants

set_option maxRecDepth 100000 in
set_option maxHeartbeats 8000000 in
theorem walk_SessionWants (al : Option Addr) (nl cl : Nat) (l : List (List UInt8)) (w : World) (hr : RowAt w al nl cl (l.map wStr)) (hT : TzAt w) :
    Calls Tryz.prog 6 #[.slice al nl cl] w fun e w' => e = .returned (.bool true) ∧ Below w.heap.size w w' := by
  have CU := hid law_setup
  have KH := hid known23
  have hll : l.length = nl := by have := hr.len; rwa [List.length_map] at this
  have hR := hid hr
  by_cases h12 : 12 < nl
  · have d12 : decide ((12 : Int) < (nl : Int)) = true := decide_eq_true (by omega)
    go_enter Tryz.func6, Tryz.ntmps6
    go_wp2_with (go_at_call 22; refine (KH.out _ hT).mono ?_; rintro e w1 ⟨rfl, hb1⟩)
    go_ret
    exact ⟨rfl, hb1⟩
  have d12 : decide ((12 : Int) < (nl : Int)) = false := decide_eq_false (by omega)
  go_enter Tryz.func6, Tryz.ntmps6
  go_wp2_with fail
  refine (CU.out _).mono ?_
  rintro e wa ⟨rfl, hba⟩
  go_wp2_with fail
  refine (ses_New 2 5 3 3 [99] wa (hT.below hba) (by decide) (by decide) (by decide) (by decide) (by decide) lM0).mono ?_
  rintro e w0 ⟨S, rfl, hx0, hst0⟩
  have hx0 : Hid (XB w0 w0.heap.size S (wX [])) := hid hx0
  have hmm := @run_makeMap Tryz.prog
  have hst0 : Hid (Stp [] S.foot w w0) := hid ((Stp.below hba).trans hst0)
  go_wp2_with fail
  have hm0 : w0.heap.size ∉ S.foot := hx0.out.foot_lt (Nat.le_refl _)
  have hbm := (Below.refl w0.heap.size w0).alloc (Nat.le_refl _) (.map #[] 0)
  have hS0 : Hid (WSt w (w0.alloc (.map #[] 0)) S w0.heap.size [] []) := hid ⟨(hx0.out.below hbm).top, hst0.out.trans (Stp.below hbm), WM.new w0, by simp⟩
  have hw0 : w.heap.size ≤ w0.heap.size := hst0.out.size
  obtain ⟨m, hm⟩ : ∃ m, w0.heap.size = m := ⟨_, rfl⟩
  have hGl : 1 < w.heap.size := hT.lt
  rw [hm] at hS0 hm0 hw0 ⊢
  clear hbm hst0 hx0
  replace hm := hid hm
  replace hll := hid hll
  go_loopw [6] (fun i wr => ∃ (k : Nat) (wl : WL), i = .int .i64 k ∧ k ≤ nl ∧ Hid (WSt w wr S m wl wl)) (fun i _ => nl - (intOf i).toNat)
  case atStart => exact ⟨0, [], rfl, Nat.zero_le _, hS0⟩
  case round =>
    obtain ⟨k, wl, rfl, hk1, hst⟩ := hrel
    rcases Nat.lt_or_ge k nl with hlt | hge
    · have dk : decide ((k : Int) < (nl : Int)) = true := decide_eq_true (by omega)
      obtain ⟨s, hs⟩ : ∃ s, l[k]? = some s := ⟨_, List.getElem?_eq_getElem (by have := hll.out; omega)⟩
      obtain ⟨lb, lo, hal, hcell⟩ := (hR.out.below hst.out.bel).cells k hlt
      subst hal
      rw [List.getElem?_map, hs] at hcell
      replace hcell : wr.cell? ⟨lb, lo + k, none⟩ = some (.string ⟨s.toArray⟩) := hcell
      have HC : Hid (∀ W, Below w.heap.size w W → W.cell? ⟨lb, lo + k, none⟩ = some (.string ⟨s.toArray⟩)) := hid fun W hb => by
        obtain ⟨b', o', e', hc'⟩ := (hR.out.below hb).cells k hlt
        simp only [Option.some.injEq, Addr.mk.injEq, and_true] at e'
        obtain ⟨rfl, rfl⟩ := e'
        rw [List.getElem?_map, hs] at hc'
        exact hc'
      have hsz : ByteArray.size ⟨s.toArray⟩ = s.length := by simp [ByteArray.size]
      clear hs
      by_cases h300 : 300 < s.length
      · have d300 : decide ((300 : Int) < (s.length : Int)) = true := decide_eq_true (by omega)
        go_wp2_with (go_at_call 22; refine (KH.out _ (hT.below hst.out.bel)).mono ?_; rintro e w7 ⟨rfl, hb7⟩)
        go_ret
        exact ⟨rfl, hst.out.bel.trans (hb7.mono hst.out.bel.size)⟩
      have d300 : decide ((300 : Int) < (s.length : Int)) = false := decide_eq_false (by omega)
      obtain ⟨q, hq⟩ : ∃ q : Int, (k : Int).tmod 3 = q := ⟨_, rfl⟩
      have hq02 : 0 ≤ q ∧ q ≤ 2 := by rw [← hq, Int.tmod_eq_emod_of_nonneg (by omega)]; omega
      have HL := run_lookup_text (P := Tryz.prog) 83 9 3 Tryz.underlying83 Tryz.underlying9 hst.out.wm (by kernel_rfl) s true
      simp only [if_true] at HL
      obtain ⟨ol, hol⟩ : ∃ ol, look wl s = ol := ⟨_, rfl⟩
      rw [hol] at HL
      have CF := hid fun W => r13_Filter s W (by omega)
      have hnd := hst.out.wm.nodup
      have hsh := hst.out.short
      obtain ⟨fr, hfr⟩ : ∃ fr, filterR s = fr := ⟨_, rfl⟩
      rw [hfr] at CF
      obtain ⟨n3, hn3⟩ : ∃ n3 : Int, ((wl.length : Nat) : Int) = n3 := ⟨_, rfl⟩
      rw [hn3] at hsh
      have hmw : Hid (subMay ((wX wl).sub s q) = fr) := hid ((wSub wl s q hq02).trans hfr)
      have hfr := hid hfr
      have hol := hid hol
      have hn3' := hid hn3
      have hnd := hid hnd
      clear hn3
      rcases fr with _ | _
      · go_wp2_with fail
        refine (ses_Want_bad hst.out.xb s q (by omega) hmw.out).mono ?_
        clear hmw
        rintro e w3 ⟨rfl, hb3⟩
        have hst3 := hid ((hst.out.below hb3).below ((Below.refl w3.heap.size w3).alloc (Nat.le_refl _) (.cells didZ 53)))
        unfold didZ at *
        have c3 := HC.out _ hst3.out.bel
        go_wp2_with (first
          | (go_at_call 30; refine (CF.out _).mono ?_; rintro e w4 ⟨rfl, hb4⟩; have hst4 := hid (hst3.out.below hb4); have c4 := HC.out _ hst4.out.bel; have cD : w4.cell? ⟨w3.heap.size, 1, none⟩ = some (.slice none 0 0) := ((Blk.new w3 #[.slice none 0 0, .slice none 0 0] 53).below hb4).cell 1; have HLen := run_len_text (P := Tryz.prog) 83 9 3 Tryz.underlying83 hst4.out.wm 3; rw [hn3'.out] at HLen)
          | (refine wpList_update_text rfl _ _ _ 83 rfl 9 3 Tryz.underlying83 Tryz.underlying9 hst4.out.wm rfl s q rfl rfl ?_; intro w6 hwm6 hg6))
        go_roundw
        case rel => exact ⟨k + 1, wl, by go_num, by omega, hst4⟩
        case measure => simp [intOf]; omega
      rcases ol with _ | q'
      · by_cases h3 : n3 = 3
        · subst h3
          go_wp2_with fail
          refine (ses_Want_full hst.out.xb s q (by omega) hmw.out hol.out (show (3 : Int) ≤ (wl.length : Int) by have := hn3'.out; omega)).mono ?_
          clear hmw
          rintro e w3 ⟨rfl, hb3⟩
          have hst3 := hid ((hst.out.below hb3).below ((Below.refl w3.heap.size w3).alloc (Nat.le_refl _) (.cells didZ 53)))
          unfold didZ at *
          have c3 := HC.out _ hst3.out.bel
          go_wp2_with (first
            | (go_at_call 30; refine (CF.out _).mono ?_; rintro e w4 ⟨rfl, hb4⟩; have hst4 := hid (hst3.out.below hb4); have c4 := HC.out _ hst4.out.bel; have cD : w4.cell? ⟨w3.heap.size, 1, none⟩ = some (.slice none 0 0) := ((Blk.new w3 #[.slice none 0 0, .slice none 0 0] 53).below hb4).cell 1; have HLen := run_len_text (P := Tryz.prog) 83 9 3 Tryz.underlying83 hst4.out.wm 3; rw [hn3'.out] at HLen)
            | (refine wpList_update_text rfl _ _ _ 83 rfl 9 3 Tryz.underlying83 Tryz.underlying9 hst4.out.wm rfl s q rfl rfl ?_; intro w6 hwm6 hg6))
          go_roundw
          case rel => exact ⟨k + 1, wl, by go_num, by omega, hst4⟩
          case measure => simp [intOf]; omega
        · have d3 : (n3 == 3) = false := by simpa using h3
          go_wp2_with fail
          refine (ses_Want_put hst.out.xb s q (by omega) hmw.out none hol.out (.inl ⟨rfl, show (wl.length : Int) < 3 by have := hn3'.out; omega⟩)).mono ?_
          clear hmw
          rintro e w3 ⟨g, rfl, d⟩
          have hbd := (Below.refl w3.heap.size w3).alloc (Nat.le_refl _) (.cells #[.slice none 0 0, .slice (some ⟨g, 0, none⟩) 1 1] 53)
          have hst3 : Hid (WSt w (w3.alloc (.cells #[.slice none 0 0, .slice (some ⟨g, 0, none⟩) 1 1] 53)) S m (ins wl s q) wl) := hid (WSt.below ⟨d.xb, hst.out.stp.trans d.stp, hst.out.wm.wrote d.stp.wrote hm0, fun p hp => by
            rcases mem_ins hp with h | h
            · rw [h]; exact hfr.out
            · exact hst.out.fil p h⟩ hbd)
          have c3 := HC.out _ hst3.out.bel
          clear d hbd
          go_wp2_with (first
            | (go_at_call 30; refine (CF.out _).mono ?_; rintro e w4 ⟨rfl, hb4⟩; have hst4 := hid (hst3.out.below hb4); have c4 := HC.out _ hst4.out.bel; have cD : w4.cell? ⟨w3.heap.size, 1, none⟩ = some (.slice (some ⟨g,0,none⟩) 1 1) := ((Blk.new w3 #[.slice none 0 0, .slice (some ⟨g,0,none⟩) 1 1] 53).below hb4).cell 1; have HLen := run_len_text (P := Tryz.prog) 83 9 3 Tryz.underlying83 hst4.out.wm 3; rw [hn3'.out] at HLen)
            | (refine wpList_update_text rfl _ _ _ 83 rfl 9 3 Tryz.underlying83 Tryz.underlying9 hst4.out.wm rfl s q rfl rfl ?_; intro w6 hwm6 hg6))
          go_roundw
          case rel =>
            have hw6 : Wrote [m] w4 w6 := Wrote.of_grown hg6 (fun k hk => by cases hk; simp)
            refine ⟨k + 1, ins wl s q, by go_num, by omega, hid ⟨(hst4.out.xb.out hw6 (by simpa using hm0) (by simp only [List.mem_singleton]; omega)).top, hst4.out.stp.fresh hw6 (by simp; omega), hwm6, hst4.out.fil⟩⟩
          case measure => simp [intOf]; omega
      · by_cases hqq : q' = q
        · have hqq' := hqq.symm
          subst hqq'
          go_wp2_with fail
          refine (ses_Want_same hst.out.xb s q (by omega) hmw.out hol.out).mono ?_
          clear hmw
          rintro e w3 ⟨rfl, hb3⟩
          have hst3 := hid ((hst.out.below hb3).below ((Below.refl w3.heap.size w3).alloc (Nat.le_refl _) (.cells didZ 53)))
          unfold didZ at *
          have c3 := HC.out _ hst3.out.bel
          go_wp2_with (first
            | (go_at_call 30; refine (CF.out _).mono ?_; rintro e w4 ⟨rfl, hb4⟩; have hst4 := hid (hst3.out.below hb4); have c4 := HC.out _ hst4.out.bel; have cD : w4.cell? ⟨w3.heap.size, 1, none⟩ = some (.slice none 0 0) := ((Blk.new w3 #[.slice none 0 0, .slice none 0 0] 53).below hb4).cell 1; have HLen := run_len_text (P := Tryz.prog) 83 9 3 Tryz.underlying83 hst4.out.wm 3; rw [hn3'.out] at HLen)
            | (refine wpList_update_text rfl _ _ _ 83 rfl 9 3 Tryz.underlying83 Tryz.underlying9 hst4.out.wm rfl s q rfl rfl ?_; intro w6 hwm6 hg6))
          go_roundw
          case rel =>
            have hw6 : Wrote [m] w4 w6 := Wrote.of_grown hg6 (fun k hk => by cases hk; simp)
            refine ⟨k + 1, wl, by go_num, by omega, hid ⟨(hst4.out.xb.out hw6 (by simpa using hm0) (by simp only [List.mem_singleton]; omega)).top, hst4.out.stp.fresh hw6 (by simp; omega), (ins_same hnd.out hol.out ▸ hwm6), hst4.out.fil⟩⟩
          case measure => simp [intOf]; omega
        · go_wp2_with fail
          refine (ses_Want_put hst.out.xb s q (by omega) hmw.out (some q') hol.out (.inr ⟨q', rfl, hqq⟩)).mono ?_
          clear hmw
          rintro e w3 ⟨g, rfl, d⟩
          have hbd := (Below.refl w3.heap.size w3).alloc (Nat.le_refl _) (.cells #[.slice none 0 0, .slice (some ⟨g, 0, none⟩) 1 1] 53)
          have hst3 : Hid (WSt w (w3.alloc (.cells #[.slice none 0 0, .slice (some ⟨g, 0, none⟩) 1 1] 53)) S m (ins wl s q) wl) := hid (WSt.below ⟨d.xb, hst.out.stp.trans d.stp, hst.out.wm.wrote d.stp.wrote hm0, fun p hp => by
            rcases mem_ins hp with h | h
            · rw [h]; exact hfr.out
            · exact hst.out.fil p h⟩ hbd)
          have c3 := HC.out _ hst3.out.bel
          clear d hbd
          go_wp2_with (first
            | (go_at_call 30; refine (CF.out _).mono ?_; rintro e w4 ⟨rfl, hb4⟩; have hst4 := hid (hst3.out.below hb4); have c4 := HC.out _ hst4.out.bel; have cD : w4.cell? ⟨w3.heap.size, 1, none⟩ = some (.slice (some ⟨g,0,none⟩) 1 1) := ((Blk.new w3 #[.slice none 0 0, .slice (some ⟨g,0,none⟩) 1 1] 53).below hb4).cell 1; have HLen := run_len_text (P := Tryz.prog) 83 9 3 Tryz.underlying83 hst4.out.wm 3; rw [hn3'.out] at HLen)
            | (refine wpList_update_text rfl _ _ _ 83 rfl 9 3 Tryz.underlying83 Tryz.underlying9 hst4.out.wm rfl s q rfl rfl ?_; intro w6 hwm6 hg6))
          go_roundw
          case rel =>
            have hw6 : Wrote [m] w4 w6 := Wrote.of_grown hg6 (fun k hk => by cases hk; simp)
            refine ⟨k + 1, ins wl s q, by go_num, by omega, hid ⟨(hst4.out.xb.out hw6 (by simpa using hm0) (by simp only [List.mem_singleton]; omega)).top, hst4.out.stp.fresh hw6 (by simp; omega), hwm6, hst4.out.fil⟩⟩
          case measure => simp [intOf]; omega
    · obtain rfl : k = nl := by omega
      have dk : decide ((k : Int) < (k : Int)) = false := by simp
      have hkl : ∀ q ∈ wl, q.1.length ≤ 1000000 := fun q hq => by have := filter_len (hst.out.fil q hq); omega
      have hkl := hid hkl
      go_wp2_with fail
      refine (ses_Wants hst.out.xb hkl.out).mono ?_
      rintro e w3 ⟨v, rfl, hr3, hb3⟩
      replace hr3 : w3.ownsRow wr.heap.size 90 3 v wl.length ((sortW wl).flatMap (subC [99])) := hr3
      obtain ⟨n, hn⟩ : ∃ n, wl.length = n := ⟨_, rfl⟩
      rw [hn] at hr3
      obtain ⟨av, cv, rfl⟩ := own_slice hr3
      have hst3 := hid (hst.out.below hb3)
      have hvf : Hid (∀ b ∈ blk (.slice av n cv), b ∉ S.foot) := hid fun b hb => hst.out.xb.foot_lt (hr3.lt b (mem_blk.1 hb)).1
      have hvm : Hid (∀ b ∈ blk (.slice av n cv), w.heap.size ≤ b) := hid fun b hb => Nat.le_trans hst.out.bel.size (hr3.lt b (mem_blk.1 hb)).1
      have hr3 := hid hr3
      have hnd := hid hst.out.wm.nodup
      have hsl := hid ((sortW_len wl).trans hn)
      have hfil := hid hst.out.fil
      have hn4 : n ≤ 3 := by have := hst.out.short; omega
      have hn := hid hn
      clear hb3 hst
      go_wp2_with fail
      go_loopw [12] (fun i wr => ∃ (k : Nat), i = .int .i64 k ∧ k ≤ n ∧ Hid (Below w3.heap.size w3 wr)) (fun i _ => n - (intOf i).toNat)
      case atStart => exact ⟨0, rfl, Nat.zero_le _, hid (Below.refl _ _)⟩
      case round =>
        obtain ⟨k, rfl, hk1, hbr⟩ := hrel
        rcases Nat.lt_or_ge k n with hlt | hge
        · have dk : decide ((k : Int) < (n : Int)) = true := decide_eq_true (by omega)
          obtain ⟨p, hp⟩ : ∃ p, (sortW wl)[k]? = some p := ⟨_, List.getElem?_eq_getElem (by have := hsl.out; omega)⟩
          have hst4 := hid (hst3.out.below hbr.out)
          have HL := run_lookup_text (P := Tryz.prog) 83 9 3 Tryz.underlying83 Tryz.underlying9 hst4.out.wm (by kernel_rfl) p.1 true
          rw [(leftW_look hnd.out hp).2] at HL
          simp only [if_true, Option.getD_some, Option.isSome_some] at HL
          obtain ⟨g5, hav, -, hrow5⟩ := own_range (subC [99]) (subC_len [99]) (l := sortW wl) (n := n) hsl.out (ownsRow_below hr3.out hbr.out) (k := k) (x := p) hp
          subst hav
          have c0 : wr.cell? ⟨g5, k * 3, none⟩ = some (.string ⟨p.1.toArray⟩) := hrow5 0 _ rfl
          have c1 : wr.cell? ⟨g5, k * 3 + 1, none⟩ = some (.string ⟨#[99]⟩) := hrow5 1 _ rfl
          have c2 : wr.cell? ⟨g5, k * 3 + 2, none⟩ = some (.int .i64 p.2) := hrow5 2 _ rfl
          by_cases hk0 : k = 0
          · subst hk0
            clear hrow5 hp
            go_wp2_with fail
            go_quiet (fail)
            go_wp2_with fail
            go_roundw
            case rel => exact ⟨1, by go_num, by omega, hid (hbr.out.trans ((below_drewN' wr nq).mono hbr.out.size))⟩
            case measure => simp [intOf]; omega
          · obtain ⟨j, hj⟩ : ∃ j, k = j + 1 := ⟨k - 1, by omega⟩
            have hkj : (k : Int) - 1 = (j : Int) := by omega
            have d0 : decide ((0 : Int) < (k : Int)) = true := decide_eq_true (by omega)
            have d0' : decide (0 < k) = true := decide_eq_true (by omega)
            have djn : j < n := by omega
            obtain ⟨p0, hp0⟩ : ∃ p, (sortW wl)[j]? = some p := ⟨_, List.getElem?_eq_getElem (by have := hsl.out; omega)⟩
            have hlt' := sortW_lt hnd.out hp0 (show (sortW wl)[j + 1]? = some p by rw [← hj]; exact hp)
            have hbl : Op.bytesLess p0.1 p.1 = true := by rw [bytesLess_eq]; exact decide_eq_true hlt'
            obtain ⟨g6, hav6, -, hrow6⟩ := own_range (subC [99]) (subC_len [99]) (l := sortW wl) (n := n) hsl.out (ownsRow_below hr3.out hbr.out) (k := j) (x := p0) hp0
            simp only [Option.some.injEq, Addr.mk.injEq, and_true] at hav6
            obtain rfl := hav6
            have c6 : wr.cell? ⟨g5, j * 3, none⟩ = some (.string ⟨p0.1.toArray⟩) := hrow6 0 _ rfl
            clear hrow5 hrow6 hp hp0 hlt' hj hk0
            go_wp2_with fail
            go_quiet (fail)
            go_wp2_with fail
            go_roundw
            case rel => exact ⟨k + 1, by go_num, by omega, hid (hbr.out.trans ((below_drewN' wr nq).mono hbr.out.size))⟩
            case measure => simp [intOf]; omega
        · obtain rfl : k = n := by omega
          have dk : decide ((k : Int) < (k : Int)) = false := by simp
          have hst5 : Hid (WSt w wr S m (leftW wl 0) wl) := hid (by rw [leftW_zero]; exact hst3.out.below hbr.out)
          have hr5 := hid (ownsRow_below hr3.out hbr.out)
          clear hr3 hst3 hbr
          go_wp2_with fail
          go_loopw [15] (fun i wr => ∃ (j : Nat), i = .int .i64 j ∧ j ≤ k ∧ Hid (WSt w wr S m (leftW wl j) wl) ∧ Hid (∃ base, wr.ownsRow base 90 3 (.slice av k cv) k ((sortW wl).flatMap (subC [99])))) (fun i _ => k - (intOf i).toNat)
          case atStart => exact ⟨0, rfl, Nat.zero_le _, hst5, hid ⟨_, hr5.out⟩⟩
          case round =>
            obtain ⟨j, rfl, hj1, hst, hro⟩ := hrel
            obtain ⟨base, hro'⟩ := hro.out
            have hro := hid hro'
            clear hro'
            rcases Nat.lt_or_ge j k with hlt | hge
            · have dj : decide ((j : Int) < (k : Int)) = true := decide_eq_true (by omega)
              obtain ⟨p, hp⟩ : ∃ p, (sortW wl)[j]? = some p := ⟨_, List.getElem?_eq_getElem (by have := hsl.out; omega)⟩
              have hlk := hid (leftW_look hnd.out hp).1
              have hpf : Hid (filterR p.1 = true) := hid (hfil.out p ((sortW_mem hnd.out).1 (List.mem_of_getElem? hp)))
              have hpl : p.1.length ≤ 1000000 := by have := filter_len hpf.out; omega
              have hdl := hid (leftW_del hp)
              obtain ⟨g5, hav, -, hrow5⟩ := own_range (subC [99]) (subC_len [99]) (l := sortW wl) (n := k) hsl.out hro.out (k := j) (x := p) hp
              subst hav
              have c0 : wr.cell? ⟨g5, j * 3, none⟩ = some (.string ⟨p.1.toArray⟩) := hrow5 0 _ rfl
              have hpl := hid hpl
              clear hrow5
              go_wp2_with fail
              refine (ses_Unwant_out hst.out.xb p.1 p.2 hpl.out hpf.out hlk.out).mono ?_
              rintro e w4 ⟨g, rfl, d⟩
              have hbd := (Below.refl w4.heap.size w4).alloc (Nat.le_refl _) (.cells #[.slice none 0 0, .slice (some ⟨g, 0, none⟩) 1 1] 53)
              have hst4 : Hid (WSt w (w4.alloc (.cells #[.slice none 0 0, .slice (some ⟨g, 0, none⟩) 1 1] 53)) S m (leftW wl (j + 1)) wl) := hid (by
                rw [← hdl.out]
                exact WSt.below ⟨d.xb, hst.out.stp.trans d.stp, hst.out.wm.wrote d.stp.wrote hm0, fun q hq => hst.out.fil q ((List.mem_filter.1 hq).1)⟩ hbd)
              have hro4 := hid (ownsRow_below (not_own hro.out d.stp.wrote (fun b hb hbb => hvf.out b hbb hb)) hbd)
              obtain ⟨_, hav4, -, hrow4⟩ := own_range (subC [99]) (subC_len [99]) (l := sortW wl) (n := k) hsl.out hro4.out (k := j) (x := p) hp
              simp only [Option.some.injEq, Addr.mk.injEq, and_true] at hav4
              obtain rfl := hav4
              have c4 : (w4.alloc (.cells #[.slice none 0 0, .slice (some ⟨g, 0, none⟩) 1 1] 53)).cell? ⟨g5, j * 3, none⟩ = some (.string ⟨p.1.toArray⟩) := hrow4 0 _ rfl
              have hlk4 : Hid (look (leftW wl (j + 1)) p.1 = none) := hid (by rw [← hdl.out]; exact look_del _ _)
              clear hrow4 d hbd hdl hlk
              go_wp2_with fail
              refine (ses_Unwant_none hst4.out.xb p.1 hpl.out hpf.out hlk4.out).mono ?_
              rintro e w5 ⟨rfl, hb5⟩
              have hst5' := hid ((hst4.out.below hb5).below ((Below.refl w5.heap.size w5).alloc (Nat.le_refl _) (.cells didZ 53)))
              have hro5 := hid (ownsRow_below (ownsRow_below hro4.out hb5) ((Below.refl w5.heap.size w5).alloc (Nat.le_refl _) (.cells didZ 53)))
              unfold didZ at *
              go_wp2_with fail
              go_roundw
              case rel => exact ⟨j + 1, by go_num, by omega, hst5', hid ⟨_, hro5.out⟩⟩
              case measure => simp [intOf]; omega
            · obtain rfl : j = k := by omega
              have dj : decide ((j : Int) < (j : Int)) = false := by simp
              have hst6 : Hid (WSt w wr S m [] wl) := hid (by have := hst.out; rwa [← hn.out, leftW_all] at this)
              have HLen := run_len_text (P := Tryz.prog) 83 9 3 Tryz.underlying83 hst6.out.wm 3
              rw [hn.out] at HLen
              have CW := hid (ses_Wants hst6.out.xb (by simp [wX]))
              clear hst
              go_wp2_with (first
                | (go_at_call 31; refine CW.out.mono ?_; rintro e w7 ⟨v7, rfl, hr7, hb7⟩; obtain ⟨a7, c7, rfl⟩ := own_slice hr7)
                | (go_at_call 22; refine (KH.out _ (hT.below (hst6.out.below hb7).bel)).mono ?_; rintro e w8 ⟨rfl, hb8⟩))
              go_ret
              exact ⟨rfl, (hst6.out.below hb7).bel.trans (hb8.mono (hst6.out.below hb7).bel.size)⟩
end Go.Proofs.YtoinabapaeebfaaGreatDoor
