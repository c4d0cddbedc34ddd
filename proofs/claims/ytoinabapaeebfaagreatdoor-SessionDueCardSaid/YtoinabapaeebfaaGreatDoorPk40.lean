/- The law's session: setup, known. · The walk of SessionDue. -/
import Derived.Test.YtoinabapaeebfaaGreatDoorPk39
set_option linter.unusedSimpArgs false
set_option linter.unusedVariables false
namespace Go.Proofs.YtoinabapaeebfaaGreatDoor
open Go.RowKit Go.Shelf

theorem val_20 : Val 4626322717216342016 80 := ⟨2 ^ 52 + 2 ^ 50, -48, by decide, by decide, by
  obtain ⟨E, hE⟩ : ∃ E : Nat, 1026 = E := ⟨_, rfl⟩
  rw [show ((-48 : Int) + 1074).toNat = 1026 from rfl, show (1072 : Nat) = 46 + 1026 from rfl, Nat.pow_add 2 46 1026, hE]
  generalize (2 : Nat) ^ E = p
  show _ = 80 * (2 ^ 46 * p)
  rw [← Nat.mul_assoc]⟩

set_option maxRecDepth 100000 in
set_option maxHeartbeats 400000 in
theorem law_setup (w : World) : Calls Tryz.prog 20 #[] w fun e w' => e = .returned (.agg #[.int .i64 2, .int .i64 5, .int .i64 3, .int .i64 3]) ∧ Below w.heap.size w w' := by
  go_enter Tryz.func20, Tryz.ntmps20
  go_wp2
  go_returns
  exact ⟨rfl, (Below.refl _ w).alloc (Nat.le_refl _) _⟩

def lX0 : XS := XS.new 2 5 3 3 [99]
def lX1 : XS := { lX0 with clean := true, on := true, keep := 10, heard := 5, will := none }
def lX2 : XS := { lX1 with wants := ins lX1.wants [97] 1 }
def lS2 : SS := (lX2.o.put (lX2.o.row [97] [120] 1 false)).start.all.fin (lX2.o.seq + 1) lX2.o.id
def lX3 : XS := { lX2 with o := lS2.s }
theorem lM0 : sessMay (sessV [99] 0 1) = true := by kernel_rfl
theorem lM1 : subMay (lX1.sub [97] 1) = true := by kernel_rfl
theorem lM2 : subMay (lX2.sub [97] 1) = true := by kernel_rfl
theorem lM3 : putMay (lX2.o.row [97] [120] 1 false) = true := by kernel_rfl
theorem lN : nameR [97] = true := by kernel_rfl
theorem lP : lS2.ps = [⟨3, false, false, 1, [97], [120], 1⟩] := by kernel_rfl
theorem lL2 : look lX2.wants [97] = some 1 := by decide

set_option maxRecDepth 100000 in
set_option maxHeartbeats 4000000 in
theorem known23 (w : World) (hT : TzAt w) : Calls Tryz.prog 22 #[] w fun e w' => e = .returned (.bool true) ∧ Below w.heap.size w w' := by
  have CU := hid law_setup
  go_enter Tryz.func22, Tryz.ntmps22
  go_wp2_with fail
  refine (CU.out _).mono ?_
  rintro e wa ⟨rfl, hba⟩
  go_wp2_with fail
  refine (ses_New 2 5 3 3 [99] wa (hT.below hba) (by decide) (by decide) (by decide) (by decide) (by decide) lM0).mono ?_
  rintro e w0 ⟨S0, rfl, hx0, hst0⟩
  have hx0 : Hid (XB w0 w0.heap.size S0 lX0) := hid hx0
  have hst0 : Hid (Stp [] S0.foot w w0) := hid ((Stp.below hba).trans hst0)
  go_wp2_with fail
  refine (ses_On_nil hx0.out true 10 5 (by decide)).mono ?_
  rintro e w1 ⟨rfl, hx1, hst1⟩
  have hst1 := hid (hst0.out.trans hst1)
  obtain ⟨S1, hS1⟩ : ∃ S1, ({ S0 with wv := none } : XLay) = S1 := ⟨_, rfl⟩
  have hp1 : S0.p = S1.p := by rw [← hS1]
  rw [hS1] at hx1 hst1
  rw [hp1]
  have hx1 : Hid (XB w1 w0.heap.size S1 lX1) := hid hx1
  clear hS1 hp1 hst0 hx0
  go_wp2_with fail
  refine (ses_Want_put hx1.out [97] 1 (by decide) lM1 none rfl (.inl ⟨rfl, by decide⟩)).mono ?_
  rintro e w2 ⟨g2, rfl, d2⟩
  have d2 : Hid (SDid w1 w2 S1 S1 lX2 _ _ _ _) := hid d2
  go_wp2_with fail
  have hA : Hid (Blk (w2.alloc (.cells #[.slice none 0 0, .slice (some ⟨g2, 0, none⟩) 1 1] 53)) w2.heap.size #[.slice none 0 0, .slice (some ⟨g2, 0, none⟩) 1 1] 53) := hid (Blk.new w2 _ _)
  have hAn : w2.heap.size ∉ S1.foot := d2.out.xb.foot_lt (Nat.le_refl _)
  have hxA := hid (d2.out.xb.alloc (.cells #[.slice none 0 0, .slice (some ⟨g2, 0, none⟩) 1 1] 53)).top
  have hstA := hid ((hst1.out.trans d2.out.stp).trans (Stp.below ((Below.refl _ w2).alloc (Nat.le_refl _) (.cells #[.slice none 0 0, .slice (some ⟨g2, 0, none⟩) 1 1] 53))))
  refine (ses_Want_same hxA.out [97] 1 (by decide) lM2 lL2).mono ?_
  rintro e w3 ⟨rfl, hb3⟩
  have hA3 := hid (hA.out.below hb3)
  have hx3 := hid ((hxA.out.below hb3).alloc (.cells didZ 53)).top
  have hst3 := hid ((hstA.out.trans (Stp.below hb3)).trans (Stp.below ((Below.refl _ w3).alloc (Nat.le_refl _) (.cells didZ 53))))
  have hBn : w3.heap.size ∉ S1.foot := (hxA.out.below hb3).foot_lt (Nat.le_refl _)
  have hBB : Hid (Blk (w3.alloc (.cells didZ 53)) w3.heap.size didZ 53) := hid (Blk.new w3 _ _)
  have hA3' := hid (hA3.out.alloc (.cells didZ 53))
  clear hA hxA hstA hx1 hst1
  unfold didZ at *
  go_wp2_with fail
  refine (ses_Give_on hx3.out [97] [120] 1 false (by decide) lN (by decide) (by decide) lM3 (by decide) (by decide) rfl).mono ?_
  rintro e w4 ⟨vp, vc, L4, rfl, d4⟩
  have d4 : SDid _ w4 S1 { S1 with o := L4 } lX3 vp vc lS2.ps _ := d4
  rw [lP] at d4
  have hA4 := hid (hA3'.out.wrote d4.stp.wrote hAn)
  have hB4 := hid (hBB.out.wrote d4.stp.wrote hBn)
  have hst4 := hid (hst3.out.trans d4.stp)
  obtain ⟨ac, nc, cc, rfl⟩ : ∃ a n c, vc = .slice a n c := by obtain ⟨a, c, h⟩ := own_slice d4.chgs; exact ⟨_, _, _, h⟩
  obtain ⟨av, cv, rfl⟩ := own_slice d4.packs
  obtain ⟨g4, rfl, hcap4, hrow4⟩ := own_range PackV.cells PackV.len (l := [⟨3, false, false, 1, [97], [120], 1⟩]) (n := [(⟨3, false, false, 1, [97], [120], 1⟩ : PackV)].length) rfl d4.packs (k := 0) rfl
  have hg4 := (d4.packs.lt g4 rfl).2
  have hbody : w4.cell? ⟨g4, 5, none⟩ = some (.string ⟨#[120]⟩) := hrow4 5 _ rfl
  have hx4 := hid d4.xb
  clear hA3 hA3' hBB hx3 hst3 hrow4 d4
  have hx5 := hid ((hx4.out.alloc (.cells #[.slice (some ⟨g4, 0, none⟩) 1 cv, .slice ac nc cc] 53)).top)
  have hC5 : Hid (Blk (w4.alloc (.cells #[.slice (some ⟨g4, 0, none⟩) 1 cv, .slice ac nc cc] 53)) w4.heap.size #[.slice (some ⟨g4, 0, none⟩) 1 cv, .slice ac nc cc] 53) := hid (Blk.new w4 _ _)
  have hA5 := hid (hA4.out.alloc (.cells #[.slice (some ⟨g4, 0, none⟩) 1 cv, .slice ac nc cc] 53))
  have hB5 := hid (hB4.out.alloc (.cells #[.slice (some ⟨g4, 0, none⟩) 1 cv, .slice ac nc cc] 53))
  have hbody5 := cell_alloc hbody (.cells #[.slice (some ⟨g4, 0, none⟩) 1 cv, .slice ac nc cc] 53)
  have hst5 := hid (hst4.out.trans (Stp.below ((Below.refl _ w4).alloc (Nat.le_refl _) (.cells #[.slice (some ⟨g4, 0, none⟩) 1 cv, .slice ac nc cc] 53))))
  go_wp2_with fail
  replace hbody5 := hid hbody5
  refine (ses_Due hx5.out (by decide) (by decide)).mono ?_
  rintro e w6 ⟨b, rfl, hd, hb6⟩
  have hv : Val b 80 := by
    unfold DueB at hd
    rw [if_pos (show lX3.runs = true from rfl)] at hd
    exact hd
  have hord : FloatKind.f64.format.order b 4626322717216342016 = some .eq := (val_order hv val_20).trans rfl
  have hx6 := hid (hx5.out.below hb6)
  clear hd
  go_wp2_with fail
  refine (ses_Late hx6.out (by decide) (by decide) 20 (by decide) (by decide)).mono ?_
  rintro e w7 ⟨rfl, hb7⟩
  have hx7 := hid (hx6.out.below hb7)
  have e20 : (lX3.runs && decide (lX3.due < 4 * (20 : Int).toNat)) = false := by kernel_rfl
  rw [e20]
  go_wp2_with fail
  refine (ses_Late hx7.out (by decide) (by decide) 21 (by decide) (by decide)).mono ?_
  rintro e w8 ⟨rfl, hb8⟩
  have hx8 := hid (hx7.out.below hb8)
  have e21 : (lX3.runs && decide (lX3.due < 4 * (21 : Int).toNat)) = true := by kernel_rfl
  rw [e21]
  have hb58 : Below (w4.alloc (.cells #[.slice (some ⟨g4, 0, none⟩) 1 cv, .slice ac nc cc] 53)).heap.size (w4.alloc (.cells #[.slice (some ⟨g4, 0, none⟩) 1 cv, .slice ac nc cc] 53)) w8 := (hb6.trans (hb7.mono hb6.size)).trans (hb8.mono (Nat.le_trans hb6.size hb7.size))
  have a1 : w8.cell? ⟨w2.heap.size, 1, none⟩ = some (.slice (some ⟨g2, 0, none⟩) 1 1) := (hA5.out.below hb58).cell 1
  have a2 : w8.cell? ⟨w3.heap.size, 1, none⟩ = some (.slice none 0 0) := (hB5.out.below hb58).cell 1
  have a3 : w8.cell? ⟨w4.heap.size, 0, none⟩ = some (.slice (some ⟨g4, 0, none⟩) 1 cv) := (hC5.out.below hb58).cell 0
  have a4 : w8.cell? ⟨g4, 5, none⟩ = some (.string ⟨#[120]⟩) := (hb58.cell (p := ⟨g4, 5, none⟩) (by simp; omega)).trans hbody5.out
  have CC := hid (ses_Client hx8.out)
  have CL := hid (fun W (hb : Below w8.heap.size w8 W) => ses_Clean (hx8.out.below hb))
  have CI := hid (fun W (hb : Below w8.heap.size w8 W) => ses_IsOn (hx8.out.below hb))
  go_wp2_with (first
    | (go_at_call 62; refine CC.out.mono ?_; rintro e w9 ⟨rfl, hb9⟩)
    | (go_at_call 39; refine (CL.out _ hb9).mono ?_; rintro e w10 ⟨rfl, rfl⟩)
    | (go_at_call 38; refine (CI.out _ hb9).mono ?_; rintro e w11 ⟨rfl, rfl⟩))
  go_ret
  have hbw := hst5.out.wrote.below (Nat.le_refl _) (by simp)
  have hbl := hb58.trans (hb9.mono hb58.size)
  exact ⟨rfl, hbw.trans (hbl.mono hbw.size)⟩
end Go.Proofs.YtoinabapaeebfaaGreatDoor
namespace Go.Proofs.YtoinabapaeebfaaGreatDoor
open Go.RowKit Go.Shelf

theorem ord_inf : FloatKind.f64.format.order infB 9094988921128908188 = some .gt := order_inf_big

set_option maxRecDepth 100000 in
set_option maxHeartbeats 4000000 in
theorem walk_SessionDue (keep now later : Int) (w : World) (hT : TzAt w) : Calls Tryz.prog 4 #[.int .i64 keep, .int .i64 now, .int .i64 later] w fun e w' => e = .returned (.bool true) ∧ Below w.heap.size w w' := by
  have CU := hid law_setup
  have KH := hid known23
  by_cases r1 : keep < 0
  · have d1 : decide (keep < 0) = true := decide_eq_true r1
    go_enter Tryz.func4, Tryz.ntmps4
    go_wp2_with fail
    refine (CU.out _).mono ?_
    rintro e wa ⟨rfl, hba⟩
    go_wp2_with fail
    refine (ses_New 2 5 3 3 [99] wa (hT.below hba) (by decide) (by decide) (by decide) (by decide) (by decide) lM0).mono ?_
    rintro e w0 ⟨S0, rfl, hx0, hst0⟩
    have hx0 : Hid (XB w0 w0.heap.size S0 lX0) := hid hx0
    have hst0 : Hid (Stp [] S0.foot w w0) := hid ((Stp.below hba).trans hst0)
    go_wp2_with fail
    refine (ses_Due hx0.out (by decide) (by decide)).mono ?_
    rintro e w1 ⟨b, rfl, hd, hb1⟩
    have hb : b = infB := by
      unfold DueB at hd
      rw [if_neg (by decide)] at hd
      exact hd
    subst hb
    have ho := ord_inf
    go_wp2_with fail
    have hbw := (hst0.out.wrote.below (Nat.le_refl _) (by simp)).trans (hb1.mono hst0.out.size)
    refine (KH.out _ (hT.below hbw)).mono ?_
    rintro e w2 ⟨rfl, hb2⟩
    go_wp2
    go_ret
    exact ⟨rfl, hbw.trans (hb2.mono hbw.size)⟩
  have d1 : decide (keep < 0) = false := decide_eq_false r1
  by_cases r2 : 65535 < keep
  · have d2 : decide (65535 < keep) = true := decide_eq_true r2
    go_enter Tryz.func4, Tryz.ntmps4
    go_wp2_with fail
    refine (CU.out _).mono ?_
    rintro e wa ⟨rfl, hba⟩
    go_wp2_with fail
    refine (ses_New 2 5 3 3 [99] wa (hT.below hba) (by decide) (by decide) (by decide) (by decide) (by decide) lM0).mono ?_
    rintro e w0 ⟨S0, rfl, hx0, hst0⟩
    have hx0 : Hid (XB w0 w0.heap.size S0 lX0) := hid hx0
    have hst0 : Hid (Stp [] S0.foot w w0) := hid ((Stp.below hba).trans hst0)
    go_wp2_with fail
    refine (ses_Due hx0.out (by decide) (by decide)).mono ?_
    rintro e w1 ⟨b, rfl, hd, hb1⟩
    have hb : b = infB := by
      unfold DueB at hd
      rw [if_neg (by decide)] at hd
      exact hd
    subst hb
    have ho := ord_inf
    go_wp2_with fail
    have hbw := (hst0.out.wrote.below (Nat.le_refl _) (by simp)).trans (hb1.mono hst0.out.size)
    refine (KH.out _ (hT.below hbw)).mono ?_
    rintro e w2 ⟨rfl, hb2⟩
    go_wp2
    go_ret
    exact ⟨rfl, hbw.trans (hb2.mono hbw.size)⟩
  have d2 : decide (65535 < keep) = false := decide_eq_false r2
  by_cases r3 : now < 0
  · have d3 : decide (now < 0) = true := decide_eq_true r3
    go_enter Tryz.func4, Tryz.ntmps4
    go_wp2_with fail
    refine (CU.out _).mono ?_
    rintro e wa ⟨rfl, hba⟩
    go_wp2_with fail
    refine (ses_New 2 5 3 3 [99] wa (hT.below hba) (by decide) (by decide) (by decide) (by decide) (by decide) lM0).mono ?_
    rintro e w0 ⟨S0, rfl, hx0, hst0⟩
    have hx0 : Hid (XB w0 w0.heap.size S0 lX0) := hid hx0
    have hst0 : Hid (Stp [] S0.foot w w0) := hid ((Stp.below hba).trans hst0)
    go_wp2_with fail
    refine (ses_Due hx0.out (by decide) (by decide)).mono ?_
    rintro e w1 ⟨b, rfl, hd, hb1⟩
    have hb : b = infB := by
      unfold DueB at hd
      rw [if_neg (by decide)] at hd
      exact hd
    subst hb
    have ho := ord_inf
    go_wp2_with fail
    have hbw := (hst0.out.wrote.below (Nat.le_refl _) (by simp)).trans (hb1.mono hst0.out.size)
    refine (KH.out _ (hT.below hbw)).mono ?_
    rintro e w2 ⟨rfl, hb2⟩
    go_wp2
    go_ret
    exact ⟨rfl, hbw.trans (hb2.mono hbw.size)⟩
  have d3 : decide (now < 0) = false := decide_eq_false r3
  by_cases r4 : 1099511627776 < now
  · have d4 : decide (1099511627776 < now) = true := decide_eq_true r4
    go_enter Tryz.func4, Tryz.ntmps4
    go_wp2_with fail
    refine (CU.out _).mono ?_
    rintro e wa ⟨rfl, hba⟩
    go_wp2_with fail
    refine (ses_New 2 5 3 3 [99] wa (hT.below hba) (by decide) (by decide) (by decide) (by decide) (by decide) lM0).mono ?_
    rintro e w0 ⟨S0, rfl, hx0, hst0⟩
    have hx0 : Hid (XB w0 w0.heap.size S0 lX0) := hid hx0
    have hst0 : Hid (Stp [] S0.foot w w0) := hid ((Stp.below hba).trans hst0)
    go_wp2_with fail
    refine (ses_Due hx0.out (by decide) (by decide)).mono ?_
    rintro e w1 ⟨b, rfl, hd, hb1⟩
    have hb : b = infB := by
      unfold DueB at hd
      rw [if_neg (by decide)] at hd
      exact hd
    subst hb
    have ho := ord_inf
    go_wp2_with fail
    have hbw := (hst0.out.wrote.below (Nat.le_refl _) (by simp)).trans (hb1.mono hst0.out.size)
    refine (KH.out _ (hT.below hbw)).mono ?_
    rintro e w2 ⟨rfl, hb2⟩
    go_wp2
    go_ret
    exact ⟨rfl, hbw.trans (hb2.mono hbw.size)⟩
  have d4 : decide (1099511627776 < now) = false := decide_eq_false r4
  by_cases r5 : later < now
  · have d5 : decide (later < now) = true := decide_eq_true r5
    go_enter Tryz.func4, Tryz.ntmps4
    go_wp2_with fail
    refine (CU.out _).mono ?_
    rintro e wa ⟨rfl, hba⟩
    go_wp2_with fail
    refine (ses_New 2 5 3 3 [99] wa (hT.below hba) (by decide) (by decide) (by decide) (by decide) (by decide) lM0).mono ?_
    rintro e w0 ⟨S0, rfl, hx0, hst0⟩
    have hx0 : Hid (XB w0 w0.heap.size S0 lX0) := hid hx0
    have hst0 : Hid (Stp [] S0.foot w w0) := hid ((Stp.below hba).trans hst0)
    go_wp2_with fail
    refine (ses_Due hx0.out (by decide) (by decide)).mono ?_
    rintro e w1 ⟨b, rfl, hd, hb1⟩
    have hb : b = infB := by
      unfold DueB at hd
      rw [if_neg (by decide)] at hd
      exact hd
    subst hb
    have ho := ord_inf
    go_wp2_with fail
    have hbw := (hst0.out.wrote.below (Nat.le_refl _) (by simp)).trans (hb1.mono hst0.out.size)
    refine (KH.out _ (hT.below hbw)).mono ?_
    rintro e w2 ⟨rfl, hb2⟩
    go_wp2
    go_ret
    exact ⟨rfl, hbw.trans (hb2.mono hbw.size)⟩
  have d5 : decide (later < now) = false := decide_eq_false r5
  by_cases r6 : 1099511627776 < later
  · have d6 : decide (1099511627776 < later) = true := decide_eq_true r6
    go_enter Tryz.func4, Tryz.ntmps4
    go_wp2_with fail
    refine (CU.out _).mono ?_
    rintro e wa ⟨rfl, hba⟩
    go_wp2_with fail
    refine (ses_New 2 5 3 3 [99] wa (hT.below hba) (by decide) (by decide) (by decide) (by decide) (by decide) lM0).mono ?_
    rintro e w0 ⟨S0, rfl, hx0, hst0⟩
    have hx0 : Hid (XB w0 w0.heap.size S0 lX0) := hid hx0
    have hst0 : Hid (Stp [] S0.foot w w0) := hid ((Stp.below hba).trans hst0)
    go_wp2_with fail
    refine (ses_Due hx0.out (by decide) (by decide)).mono ?_
    rintro e w1 ⟨b, rfl, hd, hb1⟩
    have hb : b = infB := by
      unfold DueB at hd
      rw [if_neg (by decide)] at hd
      exact hd
    subst hb
    have ho := ord_inf
    go_wp2_with fail
    have hbw := (hst0.out.wrote.below (Nat.le_refl _) (by simp)).trans (hb1.mono hst0.out.size)
    refine (KH.out _ (hT.below hbw)).mono ?_
    rintro e w2 ⟨rfl, hb2⟩
    go_wp2
    go_ret
    exact ⟨rfl, hbw.trans (hb2.mono hbw.size)⟩
  have d6 : decide (1099511627776 < later) = false := decide_eq_false r6
  have hk := hid (show 0 ≤ keep ∧ keep ≤ 65535 by omega)
  have hnw := hid (show 0 ≤ now ∧ now ≤ 1099511627776 by omega)
  have hlt := hid (show now ≤ later ∧ later ≤ 1099511627776 by omega)
  clear r1 r2 r3 r4 r5 r6
  go_enter Tryz.func4, Tryz.ntmps4
  go_wp2_with fail
  refine (CU.out _).mono ?_
  rintro e wa ⟨rfl, hba⟩
  go_wp2_with fail
  refine (ses_New 2 5 3 3 [99] wa (hT.below hba) (by decide) (by decide) (by decide) (by decide) (by decide) lM0).mono ?_
  rintro e w0 ⟨S0, rfl, hx0, hst0⟩
  have hx0 : Hid (XB w0 w0.heap.size S0 lX0) := hid hx0
  have hst0 : Hid (Stp [] S0.foot w w0) := hid ((Stp.below hba).trans hst0)
  go_wp2_with fail
  refine (ses_Late hx0.out (by decide) (by decide) later (by have := hlt.out; have := hnw.out; omega) (by have := hlt.out; omega)).mono ?_
  rintro e w1 ⟨rfl, hb1⟩
  rw [show (lX0.runs && decide (lX0.due < 4 * later.toNat)) = false by rw [show lX0.runs = false from rfl, Bool.false_and]]
  go_wp2_with fail
  refine (ses_On_nil (hx0.out.below hb1) false keep now ⟨hk.out.1, hk.out.2, hnw.out.1⟩).mono ?_
  rintro e w2 ⟨rfl, hx2, hst2⟩
  obtain ⟨S1, hS1⟩ : ∃ S1, ({ S0 with wv := none } : XLay) = S1 := ⟨_, rfl⟩
  have hp1 : S0.p = S1.p := by rw [← hS1]
  rw [hS1] at hx2 hst2
  rw [hp1]
  obtain ⟨x2, hx2e⟩ : ∃ x2, ({ lX0 with clean := false, on := true, keep := keep, heard := now, will := none } : XS) = x2 := ⟨_, rfl⟩
  rw [hx2e] at hx2
  have hf2 : x2.on = true ∧ x2.keep = keep ∧ x2.heard = now := by rw [← hx2e]; exact ⟨rfl, rfl, rfl⟩
  have hx2 := hid hx2
  have hst2 := hid ((hst0.out.trans (Stp.below hb1)).trans hst2)
  clear hS1 hp1 hst0 hx0 hb1
  by_cases hz : keep = 0
  · have dz : (keep == 0) = true := by simp [hz]
    have hr2 : x2.runs = false := by unfold XS.runs; rw [hf2.2.1, hz]; simp
    go_wp2_with fail
    refine (ses_Due hx2.out (by rw [hf2.2.2]; exact hnw.out.1) (by rw [hf2.2.2]; have := hnw.out; omega)).mono ?_
    rintro e w3 ⟨b, rfl, hd, hb3⟩
    have hb : b = infB := by
      unfold DueB at hd
      rw [hr2, if_neg (by decide)] at hd
      exact hd
    subst hb
    have ho := ord_inf
    go_wp2_with fail
    refine (ses_Late (hx2.out.below hb3) (by rw [hf2.2.2]; exact hnw.out.1) (by rw [hf2.2.2]; have := hnw.out; omega) 1099511627776 (by decide) (by decide)).mono ?_
    rintro e w4 ⟨rfl, hb4⟩
    rw [hr2, Bool.false_and]
    go_wp2_with fail
    have hbw := (hst2.out.wrote.below (Nat.le_refl _) (by simp)).trans ((hb3.trans (hb4.mono hb3.size)).mono hst2.out.size)
    refine (KH.out _ (hT.below hbw)).mono ?_
    rintro e w5 ⟨rfl, hb5⟩
    go_wp2
    go_ret
    exact ⟨rfl, hbw.trans (hb5.mono hbw.size)⟩
  · have dz : (keep == 0) = false := by simp [hz]
    have hr2 : x2.runs = true := by unfold XS.runs; rw [hf2.1, hf2.2.1]; simp [hz]
    have hdue2 : x2.due = 4 * now.toNat + 6 * keep.toNat := by unfold XS.due; rw [hf2.2.1, hf2.2.2]
    go_wp2_with fail
    refine (ses_Due hx2.out (by rw [hf2.2.2]; exact hnw.out.1) (by rw [hf2.2.2]; have := hnw.out; omega)).mono ?_
    rintro e w3 ⟨b, rfl, hd, hb3⟩
    unfold DueB at hd
    rw [hr2, if_pos rfl, hdue2] at hd
    have hkk := hk.out
    have hnn := hnw.out
    have hll := hlt.out
    obtain ⟨m, hm, vm⟩ := val_mul (v := 8 * now.toNat + 12 * keep.toNat) val_two hd (by omega) (by omega)
    have rm := fun W => run_float_arith (P := Tryz.prog) W .mul 61 .f64 _ _ _ hm
    have hv2 := val_int (2 * now + 3 * keep) (by omega) (by omega)
    have ho2 : FloatKind.f64.format.order m (floatOfInt .f64 (2 * now + 3 * keep)) = some .eq := by
      refine (val_order vm hv2).trans ?_
      rw [show 4 * (2 * now + 3 * keep).toNat = 8 * now.toNat + 12 * keep.toNat by omega]
      simp [Nat.compare_eq_eq]
    have hw1 : wrap64 (2 * now) = 2 * now := by unfold wrap64; omega
    have hw2 : wrap64 (3 * keep) = 3 * keep := by unfold wrap64; omega
    have hw3 : wrap64 (2 * now + 3 * keep) = 2 * now + 3 * keep := by unfold wrap64; omega
    clear hm vm hv2 hd hkk hnn hll
    go_wp2_with fail
    refine (ses_Late (hx2.out.below hb3) (by rw [hf2.2.2]; exact hnw.out.1) (by rw [hf2.2.2]; have := hnw.out; omega) now (by have := hnw.out; omega) (by have := hnw.out; omega)).mono ?_
    rintro e w4 ⟨rfl, hb4⟩
    rw [show (x2.runs && decide (x2.due < 4 * now.toNat)) = false by rw [hr2, Bool.true_and, hdue2]; exact decide_eq_false (by omega)]
    have hb34 := hb3.trans (hb4.mono hb3.size)
    go_wp2_with fail
    refine (ses_Heard (hx2.out.below hb34) later).mono ?_
    rintro e w5 ⟨rfl, hx5, hst5⟩
    rw [if_neg (show ¬ later < 0 by have := hlt.out; have := hnw.out; omega)]
    rw [if_pos (show 0 ≤ later ∧ x2.on = true from ⟨by have := hlt.out; have := hnw.out; omega, hf2.1⟩)] at hx5
    obtain ⟨x5, hx5e⟩ : ∃ x5, ({ x2 with heard := later } : XS) = x5 := ⟨_, rfl⟩
    rw [hx5e] at hx5
    have hf5 : x5.on = true ∧ x5.keep = keep ∧ x5.heard = later := by rw [← hx5e]; exact ⟨hf2.1, hf2.2.1, rfl⟩
    have hx5 := hid hx5
    have hst5 := hid ((hst2.out.trans (Stp.below hb34)).trans hst5)
    have hr5 : x5.runs = true := by unfold XS.runs; rw [hf5.1, hf5.2.1]; simp [hz]
    have hdue5 : x5.due = 4 * later.toNat + 6 * keep.toNat := by unfold XS.due; rw [hf5.2.1, hf5.2.2]
    clear hx2 hst2 hb34 hb3 hb4 rm ho2 hw1 hw3 hdue2 hr2
    have hl0 : Hid (0 ≤ later ∧ later ≤ 1099511627776) := hid (by have := hlt.out; have := hnw.out; omega)
    go_wp2_with fail
    refine (ses_Due hx5.out (by rw [hf5.2.2]; exact hl0.out.1) (by rw [hf5.2.2]; have := hl0.out; omega)).mono ?_
    rintro e w6 ⟨b6, rfl, hd, hb6⟩
    unfold DueB at hd
    rw [hr5, if_pos rfl, hdue5] at hd
    have hkk := hk.out
    have hnn := hl0.out
    obtain ⟨m6, hm, vm⟩ := val_mul (v := 8 * later.toNat + 12 * keep.toNat) val_two hd (by omega) (by omega)
    have rm := fun W => run_float_arith (P := Tryz.prog) W .mul 61 .f64 _ _ _ hm
    have hv2 := val_int (2 * later + 3 * keep) (by omega) (by omega)
    have ho2 : FloatKind.f64.format.order m6 (floatOfInt .f64 (2 * later + 3 * keep)) = some .eq := by
      refine (val_order vm hv2).trans ?_
      rw [show 4 * (2 * later + 3 * keep).toNat = 8 * later.toNat + 12 * keep.toNat by omega]
      simp [Nat.compare_eq_eq]
    have hw1 : wrap64 (2 * later) = 2 * later := by unfold wrap64; omega
    have hw3 : wrap64 (2 * later + 3 * keep) = 2 * later + 3 * keep := by unfold wrap64; omega
    clear hm vm hv2 hd hkk hnn
    go_wp2_with fail
    refine (ses_Off (hx5.out.below hb6)).mono ?_
    rintro e w7 ⟨rfl, hx7, hst7⟩
    obtain ⟨S7, hS7⟩ : ∃ S7, ({ S1 with wv := none } : XLay) = S7 := ⟨_, rfl⟩
    have hp7 : S1.p = S7.p := by rw [← hS7]
    rw [hS7] at hx7 hst7
    rw [hp7]
    obtain ⟨x7, hx7e⟩ : ∃ x7, ({ x5 with on := false, will := none } : XS) = x7 := ⟨_, rfl⟩
    rw [hx7e] at hx7
    have hf7 : x7.runs = false ∧ x7.heard = later := by rw [← hx7e]; exact ⟨rfl, hf5.2.2⟩
    have hx7 := hid hx7
    have hst7 := hid ((hst5.out.trans (Stp.below hb6)).trans hst7)
    clear hx5 hst5 hb6 rm ho2 hw1 hw2 hw3 hS7 hp7
    go_wp2_with fail
    refine (ses_Due hx7.out (by rw [hf7.2]; exact hl0.out.1) (by rw [hf7.2]; have := hl0.out; omega)).mono ?_
    rintro e w8 ⟨b8, rfl, hd, hb8⟩
    have hb : b8 = infB := by
      unfold DueB at hd
      rw [hf7.1, if_neg (by decide)] at hd
      exact hd
    subst hb
    have ho := ord_inf
    have hw4 : wrap64 (later + 1000000) = later + 1000000 := by have := hl0.out; unfold wrap64; omega
    go_wp2_with fail
    refine (ses_Late (hx7.out.below hb8) (by rw [hf7.2]; exact hl0.out.1) (by rw [hf7.2]; have := hl0.out; omega) (later + 1000000) (by have := hl0.out; omega) (by have := hl0.out; omega)).mono ?_
    rintro e w9 ⟨rfl, hb9⟩
    rw [hf7.1, Bool.false_and]
    go_wp2_with fail
    have hbw := (hst7.out.wrote.below (Nat.le_refl _) (by simp)).trans ((hb8.trans (hb9.mono hb8.size)).mono hst7.out.size)
    refine (KH.out _ (hT.below hbw)).mono ?_
    rintro e w10 ⟨rfl, hb10⟩
    go_wp2
    go_ret
    exact ⟨rfl, hbw.trans (hb10.mono hbw.size)⟩
end Go.Proofs.YtoinabapaeebfaaGreatDoor
