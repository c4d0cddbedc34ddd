/- The walk of SessionGives. · From what a row's frame knows of its arguments to the words of these texts. -/
import Derived.Test.YtoinabapaeebfaaGreatDoorPk40
import Derived.Test.YtoinabapaeebfaaGreatDoorPk08
import Derived.Test.YtoinabapaeebfaaGreatDoorPk01
import Derived.Test.YtoinabapaeebfaaGreatDoorProg
set_option linter.unusedSimpArgs false
set_option linter.unusedVariables false
namespace Go.Proofs.YtoinabapaeebfaaGreatDoor
open Go.RowKit Go.Shelf

theorem gStr (k : Nat) (hk : k < 60) (ch : UInt8) (hch : UInt8.ofNat (48 + k) = ch) (W : World) : (convert 71 9 (.slice (some ⟨W.heap.size, 0, none⟩) 1 1)).run Tryz.prog (W.alloc (.cells #[.int .u8 (48 + (k : Int))] 5)) = .ok (.string ⟨#[ch]⟩) (W.alloc (.cells #[.int .u8 (48 + (k : Int))] 5)) := by
  have h := RowAt.one W (.int .u8 (48 + (k : Int))) 5
  have e : [Value.int .u8 (48 + (k : Int))] = bs [ch] := by
    rw [← hch]
    simp [bs]
    omega
  exact run_str (l := [ch]) (by rw [← e]; exact h)
def lQ (l : List UInt8) : List Int := l.map fun b => (b.toNat : Int) % 3
def gX (keep : Int) (o : OS) : XS := ⟨3, 3, o, [], [], false, false, keep, 0, none⟩
theorem wrap64_byte (z : Int) (h0 : 0 ≤ z) (h1 : z < 256) : wrap64 z = z := by unfold wrap64; omega
theorem gN : nameR [116] = true := by kernel_rfl
theorem gC : clientR [99] = true := by kernel_rfl
theorem gMay (qs : List Int) (b : List UInt8) (hb : (b.length : Int) ≤ 2000) (h5 : qs.length ≤ 5) (q : Int) (hq : 1 ≤ q ∧ q ≤ 2) : putMay ((gOS qs).row [116] b q false) = true := by
  obtain ⟨h1, h2, h3, h4, h6, h7⟩ := gOS_facts qs
  unfold putMay OS.row
  simp only [h1, gC, gN, h6]
  simp
  omega
theorem gWant_le (qs : List Int) : (gWant qs).length ≤ qs.length := by
  suffices h : ∀ (qs : List Int) (s : List (List UInt8) × Nat), (qs.foldl gWantS s).1.length ≤ s.1.length + qs.length by simpa [gWant] using h qs ([], 0)
  intro qs
  induction qs with
  | nil => intro s; simp
  | cons q qs ih =>
    intro s
    rw [List.foldl_cons]
    have := ih (gWantS s q)
    refine Nat.le_trans this ?_
    unfold gWantS
    dsimp only
    split <;> simp <;> omega
theorem lQ_take (l : List UInt8) (k : Nat) (hk : k < l.length) : (lQ l).take (k + 1) = (lQ l).take k ++ [((l[k]?.getD 0).toNat : Int) % 3] := by
  unfold lQ
  rw [List.take_add_one, List.getElem?_map, List.getElem?_eq_getElem hk]
  rfl
theorem lQ_len (l : List UInt8) (k : Nat) (hk : k ≤ l.length) : ((lQ l).take k).length = k := by
  unfold lQ
  rw [List.length_take, List.length_map]
  omega
def gW : WillV := ⟨[119], [98], 0, false⟩
theorem gW_may : gW.may = true := by kernel_rfl

/-- Between the rounds. -/
structure GSt (w W : World) (p : Nat) (S : XLay) (x : XS) (wv : Value) (ws : List (List UInt8)) : Prop where
  xb : XB W W.heap.size S x
  p : S.p = p
  stp : Stp [] S.foot w W
  own : W.ownsRow w.heap.size 9 1 wv ws.length (ws.map wStr)
  free : ∀ b ∈ blk wv, b ∉ S.foot

set_option maxRecDepth 100000 in
set_option maxHeartbeats 4000000 in
theorem walk_SessionGives (al : Option Addr) (nl cl : Nat) (l : List UInt8) (keep : Int) (hk : 0 ≤ keep ∧ keep ≤ 255) (w : World) (hr : RowAt w al nl cl (bs l)) (hT : TzAt w) :
    Calls Tryz.prog 5 #[.slice al nl cl, .int .u8 keep] w fun e w' => e = .returned (.bool true) ∧ Below w.heap.size w w' := by
  have CU := hid law_setup
  have KH := hid known23
  by_cases h5 : 5 < nl
  · have d5 : decide ((5 : Int) < (nl : Int)) = true := decide_eq_true (by omega)
    go_enter Tryz.func5, Tryz.ntmps5
    go_wp2_with (go_at_call 22; refine (KH.out _ hT).mono ?_; rintro e w1 ⟨rfl, hb1⟩)
    go_ret
    exact ⟨rfl, hb1⟩
  have d5 : decide ((5 : Int) < (nl : Int)) = false := decide_eq_false (by omega)
  have hll : l.length = nl := by have := hr.len; rwa [bs_len] at this
  have hR := hid hr
  go_enter Tryz.func5, Tryz.ntmps5
  go_wp2_with fail
  refine (CU.out _).mono ?_
  rintro e wa ⟨rfl, hba⟩
  go_wp2_with fail
  have hB0 := hid (((Below.refl w.heap.size w).trans hba).alloc hba.size (.cells #[.int .i64 10, .int .i64 5, .int .i64 3, .int .i64 3] 59))
  refine (ses_New 10 5 3 3 [99] _ (hT.below hB0.out) (by decide) (by decide) (by decide) (by decide) (by decide) lM0).mono ?_
  rintro e w0 ⟨S0, rfl, hx0, hst0⟩
  have hx0 : Hid (XB w0 w0.heap.size S0 (XS.new 10 5 3 3 [99])) := hid hx0
  have hst0 : Hid (Stp [] S0.foot w w0) := hid ((Stp.below hB0.out).trans hst0)
  clear hB0
  have hwk : IntKind.i64.wrap keep = keep := by rw [IntKind.wrap_i64]; omega
  go_wp2_with fail
  have hbW := hid ((Below.refl w0.heap.size w0).alloc (Nat.le_refl _) (.cells gW.vals 67))
  refine (ses_On_will (hx0.out.below hbW.out) false keep 0 w0.heap.size gW (Blk.new w0 _ _) ⟨hk.1, by omega, by decide⟩ (by decide) gW_may).mono ?_
  rintro e w1 ⟨wb, rfl, hwb, hx1, hst1⟩
  have hst1 : Hid (Stp [] (XLay.foot { S0 with wv := some wb }) w w1) := hid ⟨((hst0.out.trans (Stp.below hbW.out)).trans ⟨hst1, fun _ h => .inl h⟩).wrote, fun y hy => .inr (by
    have h1 := hst0.out.size
    by_cases hy2 : y = wb
    · subst hy2; simp at hwb; omega
    · refine (hst0.out.sub y ?_).resolve_left (by simp)
      simp only [XLay.foot, XLay.own, List.cons_append, List.mem_cons, List.mem_append, Option.toList_some, List.not_mem_nil, or_false] at hy ⊢
      rcases hy with h | h | h | h | h | h
      · exact .inl h
      · exact .inr (.inl h)
      · exact .inr (.inr (.inl h))
      · exact .inr (.inr (.inr (.inl h)))
      · exact absurd h hy2
      · exact .inr (.inr (.inr (.inr (.inr (h.resolve_left id))))))⟩
  obtain ⟨S1, hS1⟩ : ∃ S1, ({ S0 with wv := some wb } : XLay) = S1 := ⟨_, rfl⟩
  have hp1 : S0.p = S1.p := by rw [← hS1]
  rw [hS1] at hx1 hst1
  rw [hp1]
  have hx1 := hid hx1.top
  clear hS1 hp1 hst0 hx0 hbW
  go_wp2_with fail
  refine (ses_Off hx1.out).mono ?_
  rintro e w2 ⟨he2, hx2, hst2⟩
  replace he2 : e = .returned (.tuple #[.agg #[.string ⟨#[119]⟩, .string ⟨#[98]⟩, .int .i64 0, .bool false], .bool true]) := he2
  subst he2
  have hst2 := hid (hst1.out.trans hst2)
  obtain ⟨S2, hS2⟩ : ∃ S2, ({ S1 with wv := none } : XLay) = S2 := ⟨_, rfl⟩
  have hp2 : S1.p = S2.p := by rw [← hS2]
  rw [hS2] at hx2 hst2
  rw [hp2]
  have hx2 : Hid (XB w2 w1.heap.size S2 (gX keep (gOS []))) := hid hx2
  clear hS2 hp2 hst1 hx1
  go_wp2_with fail
  have hgn : gWant [] = [] := rfl
  have hbG := (Below.refl w2.heap.size w2).alloc (Nat.le_refl _) (.cells gW.vals 67)
  have hG0 : Hid (GSt w (w2.alloc (.cells gW.vals 67)) S2.p S2 (gX keep (gOS [])) (.slice none 0 0) []) := hid ⟨(hx2.out.below hbG).top, rfl, hst2.out.trans (Stp.below hbG), World.ownsRow_nil _ _ _ _, by simp [blk, Value.ownBlock]⟩
  clear hbG
  obtain ⟨p, hp⟩ : ∃ p, S2.p = p := ⟨_, rfl⟩
  rw [hp] at hG0 ⊢
  have hw0 := hst2.out.size
  clear hst2 hx2
  go_loopw [10, 11] (fun wv i wr => ∃ (k : Nat) (S : XLay), i = .int .i64 k ∧ k ≤ nl ∧ Hid (GSt w wr p S (gX keep (gOS ((lQ l).take k))) wv (gWant ((lQ l).take k)))) (fun _ i _ => nl - (intOf i).toNat)
  case atStart => exact ⟨0, S2, rfl, Nat.zero_le _, show Hid (GSt w (w2.alloc (.cells gW.vals 67)) p S2 (gX keep (gOS [])) (.slice none 0 0) (gWant [])) by rw [hgn]; exact hG0⟩
  case round =>
    obtain ⟨k, S, rfl, hk1, hst⟩ := hrel
    rcases Nat.lt_or_ge k nl with hlt | hge
    · have dk : decide ((k : Int) < (nl : Int)) = true := decide_eq_true (by omega)
      have hbw := hst.out.stp.wrote.below (n₀ := w.heap.size) (Nat.le_refl _) (by simp)
      obtain ⟨lb, lo, hal, hcell⟩ := (hR.out.below hbw).byte hlt
      subst hal
      obtain ⟨ch, hch⟩ : ∃ ch, UInt8.ofNat (48 + k) = ch := ⟨_, rfl⟩
      have hstr := gStr k (by omega) ch hch
      have hqs := lQ_take l k (by omega)
      have hql := lQ_len l k (by omega)
      have hb8 : (l[k]?.getD 0).toNat < 256 := (l[k]?.getD 0).toNat_lt
      obtain ⟨bn, hbn⟩ : ∃ bn : Int, ((l[k]?.getD 0).toNat : Int) = bn := ⟨_, rfl⟩
      obtain ⟨q, hq⟩ : ∃ q : Int, bn % 3 = q := ⟨_, rfl⟩
      rw [hbn] at hcell hqs
      rw [hq] at hqs
      have hb0 : 0 ≤ bn ∧ bn < 256 := by omega
      have hq3 : q = 0 ∨ q = 1 ∨ q = 2 := by omega
      have hwq : (wrap64 bn).tmod 3 = q := by rw [wrap64_byte bn hb0.1 hb0.2, Int.tmod_eq_emod_of_nonneg hb0.1, hq]
      clear hq hb0 hbn hb8
      obtain ⟨qs, hqq⟩ : ∃ qs, (lQ l).take k = qs := ⟨_, rfl⟩
      rw [hqq] at hst hqs hql
      have hq5 : qs.length ≤ 5 := by omega
      have hF := hid (gOS_facts qs)
      have hbody : gBody qs.length = [ch] := by rw [hql, ← hch]; rfl
      have hGo := gOS_snoc qs q
      have hGw := gWant_snoc qs q
      rw [← hqs, hbody] at hGo hGw
      have hqs := hid hqs
      have hqq := hid hqq
      have hql := hid hql
      have hbody := hid hbody
      have hch := hid hch
      obtain ⟨wb, wc, hwv⟩ := own_slice hst.out.own
      subst hwv
      have hown := hid hst.out.own
      have hGo := hid hGo
      have hGw := hid hGw
      go_wp2_with fail
      have hbA := hid ((Below.refl wr.heap.size wr).alloc (Nat.le_refl _) (.cells #[.int .u8 (48 + (k : Int))] 5))
      have hxA := hid ((hst.out.xb.below hbA.out).top)
      have hpe : Hid ((Value.pointer (some ⟨S.p, 0, none⟩)) = .pointer (some ⟨p, 0, none⟩)) := hid (by rw [hst.out.p])
      rcases hq3 with rfl | hq12
      · have CG := ses_Give_zero hxA.out [116] [ch] false (by decide) gN (by simp) rfl
        rw [hpe.out] at CG
        refine CG.mono ?_
        clear CG
        rintro e w3 ⟨rfl, hb3⟩
        have hB3 := hid (hbA.out.trans (hb3.mono hbA.out.size))
        rw [if_neg (by decide)] at hGo hGw
        unfold didZ at *
        go_wp2_with fail
        go_roundw
        case rel =>
          have hB4 := hid (hB3.out.alloc hB3.out.size (.cells #[.slice none 0 0, .slice none 0 0] 53))
          refine ⟨k + 1, S, by go_num, by omega, ?_⟩
          rw [hGo.out, hGw.out]
          exact hid ⟨(hst.out.xb.below hB4.out).top, hst.out.p, hst.out.stp.trans (Stp.below hB4.out), ownsRow_below hown.out hB4.out, hst.out.free⟩
        case measure => simp [intOf]; omega
      · have dq0 : decide (0 < q) = true := decide_eq_true (by omega)
        rw [if_pos (by omega)] at hGo hGw
        have CG := ses_Give_off hxA.out [116] [ch] q false (by decide) gN (by simp) (by omega) (gMay qs [ch] (by simp) hq5 q (by omega)) (by have := hF.out; simp [gX]; omega) (by have := hF.out; simp [gX]; omega) rfl
        rw [hpe.out] at CG
        refine CG.mono ?_
        clear CG
        rintro e w3 ⟨vp, vc, L3, rfl, d3⟩
        obtain ⟨ap, cp, rfl⟩ := own_slice d3.packs
        obtain ⟨ac, cc, rfl⟩ := own_slice d3.chgs
        have D3 := hid d3
        clear d3
        have hbD := hid ((((Below.refl w3.heap.size w3).alloc (Nat.le_refl _) (.cells #[.slice ap 0 cp, .slice ac 2 cc] 53)).alloc (by simp) (.cells #[.string ⟨#[ch]⟩] 9)))
        have how3 := hid (ownsRow_below (not_own (ownsRow_below hown.out hbA.out) D3.out.stp.wrote (fun b hb hbb => hst.out.free b hbb hb)) hbD.out)
        have hlw := gWant_le qs
        have hsz3 : w.heap.size ≤ ((w3.alloc (.cells #[.slice ap 0 cp, .slice ac 2 cc] 53)).alloc (.cells #[.string ⟨#[ch]⟩] 9)).heap.size := by
          have h1 := hst.out.stp.size
          have h2 := hbA.out.size
          have h3 := D3.out.stp.size
          have h4 := hbD.out.size
          omega
        go_wp2_with (at_builtin; refine append_grp rfl _ _ rfl eStr (by decide) w.heap.size _ _ _ rfl how3.out (w3.heap.size + 1) [.string ⟨#[ch]⟩] 9 rfl (by simpa using Blk.new (w3.alloc _) _ _) rfl (by simp [Value.oneCell']) (by omega) (by omega) hsz3 ?_; intro v4 w4 r4 g4 n4; obtain ⟨a4, c4, rfl⟩ := own_slice r4; have r4 := hid r4; have g4 := hid g4; have n4 := hid n4)
        go_roundw
        case rel =>
          refine ⟨k + 1, { S with o := L3 }, by go_num, by omega, ?_⟩
          rw [hGo.out, hGw.out]
          have hlt0 : ∀ b ∈ blk (.slice wb (gWant qs).length wc), w.heap.size ≤ b ∧ b < wr.heap.size := fun b hb => hown.out.lt b (mem_blk.1 hb)
          have hGl : 1 < w.heap.size := hT.lt
          have hf3 : ∀ b ∈ blk (.slice wb (gWant qs).length wc), b ∉ XLay.foot { S with o := L3 } := fun b hb => D3.out.stp.not (hst.out.free b hb) (by have := hlt0 b hb; simp; omega)
          have hw4 : Wrote (blk (.slice wb (gWant qs).length wc)) _ w4 := Wrote.of_grown g4.out (fun j hj => mem_blk.2 hj)
          have hsD := hbD.out.size
          have hsA := hbA.out.size
          have hs3 := D3.out.stp.size
          have hsw := hst.out.stp.size
          refine hid ⟨((D3.out.xb.below hbD.out).out hw4 hf3 (fun hg => by have := hlt0 _ hg; omega)).top, hst.out.p, ((hst.out.stp.trans ((Stp.below hbA.out).trans D3.out.stp)).trans (Stp.below hbD.out)).fresh hw4 (fun b hb => (hlt0 b hb).1), by simpa [wStr] using r4.out, fun b hb => ?_⟩
          rcases n4.out b (mem_blk.1 hb) with h1 | h1
          · exact hf3 b (mem_blk.2 h1)
          · exact D3.out.xb.foot_lt (by omega)
        case measure => simp [intOf]; omega
    · obtain rfl : k = nl := by omega
      have dk : decide ((k : Int) < (k : Int)) = false := by simp
      have hqk : (lQ l).take k = lQ l := List.take_of_length_le (by unfold lQ; simp; omega)
      rw [hqk] at hst
      have hq3 : ∀ q ∈ lQ l, q = 0 ∨ q = 1 ∨ q = 2 := fun q hq => by
        unfold lQ at hq
        obtain ⟨b, -, rfl⟩ := List.mem_map.1 hq
        omega
      have hql : (lQ l).length = k := by unfold lQ; simp; omega
      obtain ⟨qs, hqq⟩ : ∃ qs, lQ l = qs := ⟨_, rfl⟩
      rw [hqq] at hst hq3 hql
      have hgv := gives qs (by omega) hq3
      clear hqk hq3 hqq
      obtain ⟨wb, wc, hwv⟩ := own_slice hst.out.own
      subst hwv
      have hpe : Hid ((Value.pointer (some ⟨S.p, 0, none⟩)) = .pointer (some ⟨p, 0, none⟩)) := hid (by rw [hst.out.p])
      have CO := ses_On_nil hst.out.xb false 0 0 (by decide)
      rw [hpe.out] at CO
      go_wp2_with fail
      refine CO.mono ?_
      clear CO
      rintro e w3 ⟨rfl, hx3, hst3⟩
      have hown3 := hid (not_own hst.out.own hst3.wrote (fun b hb hbb => hst.out.free b hbb hb))
      have hfr3 : Hid (∀ b ∈ blk (.slice wb (gWant qs).length wc), b ∉ XLay.foot { S with wv := none }) := hid fun b hb => hst3.not (hst.out.free b hb) (hst.out.own.lt b (mem_blk.1 hb)).2
      have hst3 := hid (hst.out.stp.trans hst3)
      have hx3 := hid hx3.top
      go_wp2_with fail
      have CA := ses_Anew hx3.out
      rw [show (Value.pointer (some ⟨XLay.p { S with wv := none }, 0, none⟩)) = .pointer (some ⟨p, 0, none⟩) from hpe.out] at CA
      refine CA.mono ?_
      clear CA
      rintro e w4 ⟨vp, vc, L4, rfl, d4⟩
      have d4 : SDid w3 w4 _ _ _ vp vc (gPacks qs) _ := d4
      obtain ⟨av, cv, rfl⟩ := own_slice d4.packs
      obtain ⟨ac, cc, rfl⟩ := own_slice d4.chgs
      have hx4 := hid d4.xb
      have hown4 := hid (not_own hown3.out d4.stp.wrote (fun b hb hbb => hfr3.out b hbb hb))
      have hpk4 := hid d4.packs
      have hst4 := hid (hst3.out.trans d4.stp)
      obtain ⟨S4, hS4⟩ : ∃ S4, ({ S with wv := none, o := L4 } : XLay) = S4 := ⟨_, rfl⟩
      have hp4 : Hid (S4.p = p) := hid (by rw [← hS4]; exact hst.out.p)
      have hst4 : Hid (Stp [] S4.foot w w4) := hid (by rw [← hS4]; exact hst4.out)
      have hx4 : Hid (XB w4 w4.heap.size S4 _) := hid (by rw [← hS4]; exact hx4.out)
      clear d4 hst3 hx3 hown3 hfr3 hpe hst hS4
      have hle : (gPacks qs).length = (gWant qs).length := by have := congrArg List.length hgv; simpa using this
      have hgw := gWant_le qs
      obtain ⟨n, hn⟩ : ∃ n, (gPacks qs).length = n := ⟨_, rfl⟩
      have hn' : (gWant qs).length = n := by omega
      rw [hn] at hpk4 ⊢
      rw [hn'] at hown4 ⊢
      clear hle
      generalize hcn : List.length _ = cn
      go_wp2_with fail
      have hbD := hid ((Below.refl w4.heap.size w4).alloc (Nat.le_refl _) (.cells #[.slice av n cv, .slice ac cn cc] 53))
      have hB5 := hid (Blk.new w4 #[.slice av n cv, .slice ac cn cc] 53)
      have hown5 := hid (ownsRow_below hown4.out hbD.out)
      have hpk5 := hid (ownsRow_below hpk4.out hbD.out)
      clear hown4 hpk4
      generalize hW5 : w4.alloc (.cells #[.slice av n cv, .slice ac cn cc] 53) = W5 at *
      have hW5 := hid hW5
      go_loopw [19] (fun i wr => ∃ (k : Nat), i = .int .i64 k ∧ k ≤ n ∧ Hid (Below W5.heap.size W5 wr)) (fun i _ => n - (intOf i).toNat)
      case atStart => exact ⟨0, rfl, Nat.zero_le _, hid (Below.refl _ _)⟩
      case round =>
        obtain ⟨k, rfl, hk1, hbr⟩ := hrel
        rcases Nat.lt_or_ge k n with hlt | hge
        · have dk : decide ((k : Int) < (n : Int)) = true := decide_eq_true (by omega)
          obtain ⟨pk, hpk⟩ : ∃ pk, (gPacks qs)[k]? = some pk := ⟨_, List.getElem?_eq_getElem (by omega)⟩
          obtain ⟨bw, hbw⟩ : ∃ bw, (gWant qs)[k]? = some bw := ⟨_, List.getElem?_eq_getElem (by omega)⟩
          have hpv : pk.body = bw ∧ pk.dup = false ∧ pk.id = (k : Int) + 1 := by
            have := congrArg (fun l => l[k]?) hgv
            simpa [hpk, hbw] using this
          obtain ⟨g5, hav, -, hrow5⟩ := own_range PackV.cells PackV.len (l := gPacks qs) (n := n) hn (ownsRow_below hpk5.out hbr.out) (k := k) (x := pk) hpk
          subst hav
          obtain ⟨_, _, hwe, hwc⟩ := own_cell (ownsRow_below hown5.out hbr.out)
          obtain ⟨rfl, rfl⟩ : wb = _ ∧ wc = _ := by simpa using hwe
          obtain ⟨g6, hwb, hc6⟩ := hwc k (.string ⟨bw.toArray⟩) (by simp [hbw, wStr])
          subst hwb
          have c0 : wr.cell? ⟨w4.heap.size, 0, none⟩ = some (.slice (some ⟨g5, 0, none⟩) n cv) := (hB5.out.below hbr.out).cell 0
          have c5 : wr.cell? ⟨g5, k * 24 + 5, none⟩ = some (.string ⟨bw.toArray⟩) := hpv.1 ▸ hrow5 5 _ rfl
          have c1 : wr.cell? ⟨g5, k * 24 + 1, none⟩ = some (.bool false) := hpv.2.1 ▸ hrow5 1 _ rfl
          have c7 : wr.cell? ⟨g5, k * 24 + 6, none⟩ = some (.int .i64 ((k : Int) + 1)) := hpv.2.2 ▸ hrow5 6 _ rfl
          clear hpv hrow5 hwc hwe hgv
          go_wp2_with fail
          go_quiet (fail)
          go_wp2_with fail
          go_roundw
          case rel => exact ⟨k + 1, by go_num, by omega, hid (hbr.out.trans ((below_drewN' wr nq).mono hbr.out.size))⟩
          case measure => simp [intOf]; omega
        · obtain rfl : k = n := by omega
          have dk : decide ((k : Int) < (k : Int)) = false := by simp
          go_wp2_with fail
          have hbF := hid (hbD.out.trans (hbr.out.mono hbD.out.size))
          have CF := ses_Off (hx4.out.below hbF.out).top
          rw [hp4.out] at CF
          refine CF.mono ?_
          clear CF
          rintro e w6 ⟨he6, hx6, hst6⟩
          replace he6 : e = .returned (.tuple #[.agg #[.string ⟨#[]⟩, .string ⟨#[]⟩, .int .i64 0, .bool false], .bool false]) := he6
          subst he6
          have hB6 : Below w.heap.size w w6 := ((hst4.out.trans (Stp.below hbF.out)).trans hst6).wrote.below (Nat.le_refl _) (by simp)
          have hB6 := hid hB6
          go_wp2_with (go_at_call 22; refine (KH.out _ (hT.below hB6.out)).mono ?_; rintro e w7 ⟨rfl, hb7⟩)
          go_ret
          exact ⟨rfl, hB6.out.trans (hb7.mono hB6.out.size)⟩
end Go.Proofs.YtoinabapaeebfaaGreatDoor
namespace Go.Proofs.YtoinabapaeebfaaGreatDoor
open Go.RowKit Go.Shelf

/-- A slice of integers that came in: nil, or a row of 'cap' cells, the numbers 'zs', the first 'len' of which are its elements. -/
def IsRow (k : IntKind) (w : World) (a : Option Addr) (len cap : Nat) (zs : List Int) : Prop :=
  (a = none ∧ len = 0 ∧ cap = 0 ∧ zs = []) ∨
  ∃ x, a = some x ∧ len ≤ cap ∧ cap ≤ maxLen ∧ zs.length = cap ∧ (∀ i, i < zs.length → w.cell? (x.add i) = some (.int k (zs.getD i 0))) ∧ ∀ n ∈ zs, (Lit.int k n).wf = true

theorem IsRow.row {k : IntKind} {w : World} {a : Option Addr} {len cap : Nat} {zs : List Int} (h : IsRow k w a len cap zs) : RowAt w a len cap (ns k (zs.take len)) ∧ ∀ n ∈ zs.take len, (Lit.int k n).wf = true := by
  rcases h with ⟨rfl, rfl, rfl, rfl⟩ | ⟨x, rfl, hl, hm, hz, hc, hwf⟩
  · exact ⟨RowAt.empty w, by simp⟩
  · refine ⟨⟨by simp [ns]; omega, hl, hm, (fun e => by cases e), fun i hi => ?_⟩, fun n hn => hwf n (List.mem_of_mem_take hn)⟩
    have h0 := hc i (by omega)
    obtain ⟨b, off, spot⟩ := x
    have hspot : spot = none := by
      have h1 := hc 0 (by omega)
      simpa [Addr.add] using World.cell?_spot h1
    subst hspot
    refine ⟨b, off, rfl, ?_⟩
    have e1 : (ns k (zs.take len))[i]? = some (.int k (zs.getD i 0)) := by
      rw [ns_get k _ i (by simp; omega), List.getElem?_take_of_lt hi]
      rfl
    rw [e1, ← h0]
    by_cases h0 : i = 0
    · subst h0; simp [Addr.add]
    · simp [Addr.add, h0]

theorem IsRow.bytes {w : World} {a : Option Addr} {len cap : Nat} {zs : List Int} (h : IsRow .u8 w a len cap zs) : ∃ l : List UInt8, RowAt w a len cap (bs l) := by
  obtain ⟨h1, h2⟩ := h.row
  refine ⟨(zs.take len).map fun z => UInt8.ofNat z.toNat, ?_⟩
  have e : bs ((zs.take len).map fun z => UInt8.ofNat z.toNat) = ns .u8 (zs.take len) := by
    simp only [bs, ns, List.map_map]
    refine List.map_congr_left fun z hz => ?_
    have hw := h2 z hz
    simp only [Lit.wf, Bool.and_eq_true, decide_eq_true_eq] at hw
    have hmin : IntKind.u8.min = 0 := rfl
    have hmax : IntKind.u8.max = 255 := rfl
    simp only [Function.comp]
    congr 1
    rw [UInt8.toNat_ofNat']
    omega
  rw [e]; exact h1
theorem wf_u8 {z : Int} (h : (Lit.int .u8 z).wf = true) : 0 ≤ z ∧ z ≤ 255 := by
  simp only [Lit.wf, Bool.and_eq_true, decide_eq_true_eq] at h
  have hmin : IntKind.u8.min = 0 := rfl
  have hmax : IntKind.u8.max = 255 := rfl
  omega
end Go.Proofs.YtoinabapaeebfaaGreatDoor
