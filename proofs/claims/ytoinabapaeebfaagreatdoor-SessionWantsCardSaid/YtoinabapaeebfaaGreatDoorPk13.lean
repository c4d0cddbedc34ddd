/- Contracts of package inbox (part 4): each, count, Len. · Contracts of package inbox (part 5): count, Len. -/
import Derived.Test.YtoinabapaeebfaaGreatDoorPk12
import Derived.Test.YtoinabapaeebfaaGreatDoorPk08
import Derived.BigRegionIn
import Derived.RegionIn
import Derived.Handy
import Derived.Test.YtoinabapaeebfaaGreatDoorPk11
import Derived.Test.YtoinabapaeebfaaGreatDoorPk10
set_option linter.unusedSimpArgs false
set_option linter.unusedVariables false
namespace Go.Proofs.YtoinabapaeebfaaGreatDoor
open Go.RowKit Go.Shelf
attribute [local go_sem] Oper.semAt_some

def encI (x : Int) : Array Value := #[.int .i64 x]
theorem TzAt.block {w w' : World} (h : TzAt w) (hk : w'.heap[1]? = w.heap[1]?) : TzAt w' := by
  refine h.keep fun p v hp hc => ?_
  unfold World.cell? at hc ⊢
  rw [hp] at hc ⊢
  rw [hk]; exact hc
theorem TzAt.lt {w : World} (h : TzAt w) : 1 < w.heap.size := cell_lt (p := ⟨1, 0, none⟩) (h 0 (by decide))
theorem TzAt.below {w w' : World} (h : TzAt w) (hb : Below w.heap.size w w') : TzAt w' := h.block (hb.block _ h.lt)
theorem TzAt.wrote {M : List Nat} {w w' : World} (h : TzAt w) (hb : Wrote M w w') (hM : 1 ∉ M) : TzAt w' := h.block (hb.block _ h.lt hM)

set_option maxRecDepth 100000 in
set_option maxHeartbeats 400000 in
theorem in_each (s : Nat) (w : World) :
    Calls Tryz.prog 127 #[.pointer (some ⟨s, 0, none⟩)] w fun e w' => e = .returned (.func (.func 190) #[] #[.pointer (some ⟨w.heap.size, 0, none⟩)]) ∧ w.alloc (.cells #[.pointer (some ⟨s, 0, none⟩)] 178) = w' := by
  go_enter Tryz.func127, Tryz.ntmps127
  go_wp2
  go_ret
  exact ⟨rfl, rfl⟩

theorem popN_pos (n w : Nat) (h0 : w ≠ 0) (h : w < 2 ^ n) : 0 < popN n w := by have := popN_and n w h0 h; omega

set_option maxRecDepth 100000 in
set_option maxHeartbeats 1000000 in
theorem in_each1 (s : Nat) (W0 : Nat → Nat) (w : World) (B : Nat) (hs : Blk w s (setCells W0) 181) (hW0 : ∀ i, W0 i < 18446744073709551616) (hT : TzAt w) (hb : Boxed w B 178 (.pointer (some ⟨s, 0, none⟩))) :
    SeqG Tryz.prog 190 #[.pointer (some ⟨B, 0, none⟩)] encI (Keep 0 [B, s, 1]) (Wrote []) (fun pre _ _ => pre.length < 65536) (fun xs => xs.length = tot 1024 W0) (fun _ => True) w := by
  intro lb J Jx W hW hlb hJ hJx hY h0
  have hb := boxed_below hb hW
  have hs := hs.below hW
  have hT := hT.below hW
  refine callsIn_of_wp Tryz.func190 rfl trivial ?_ rfl
  simp only [Tryz.ntmps190, List.size_toArray, List.length_cons, List.length_nil, Nat.reduceAdd, Nat.reduceSub, Array.replicate_succ, Array.replicate_zero, List.push_toArray, List.append_toArray, List.nil_append, List.cons_append]
  have hc1 := hb.cell
  gi_wp2
  refine wpIn_wide.2 (wp_scope_straight ((wpIn_wide (n := 0)).1 ?_))
  refine wpIn_seq (wpIn_label ?_)
  simp only [go_sem]
  gi_wp2
  gi_loopw [3, 4, 6] (fun _ _ i wr => ∃ (pre : List Int) (k : Nat), i = .int .i64 k ∧ k ≤ 1024 ∧ Hid (pre.length = tot k W0) ∧ Boxed wr B 178 (.pointer (some ⟨s, 0, none⟩)) ∧ Blk wr s (setCells W0) 181 ∧ TzAt wr ∧ J pre wr)
    (fun _ _ i _ => 1024 - (intOf i).toNat)
  case atStart => exact ⟨[], 0, rfl, Nat.zero_le _, hid rfl, hb, hs, hT, h0⟩
  case round =>
    obtain ⟨pre, k, rfl, hk, hn, hb, hs, hT, hj⟩ := hrel
    rcases Nat.lt_or_ge k 1024 with hlt | hge
    · obtain ⟨x, hx⟩ : ∃ x : Int, (W0 k : Int) = x := ⟨_, rfl⟩
      have dk : decide ((k : Int) < 1024) = true := decide_eq_true (by omega)
      have kc1 : wr.cell? ⟨s, k, none⟩ = some (.int .u64 x) := by
        have := hs.cell k
        rw [setCells_get _ _ hlt, hx] at this
        exact this
      gi_wp2
      gi_region
      gi_wp2
      gi_loopw [4] (fun v wi => ∃ (pre' : List Int) (y : Nat), v = .int .u64 y ∧ Hid (y < 18446744073709551616) ∧ Hid (pre'.length + popN 64 y = tot (k + 1) W0) ∧ Boxed wi B 178 (.pointer (some ⟨s, 0, none⟩)) ∧ Blk wi s (setCells W0) 181 ∧ TzAt wi ∧ J pre' wi)
        (fun v _ => (intOf v).toNat)
      case atStart => exact ⟨pre, W0 k, by rw [hx], hW0 k, (by rw [hn.out]; rfl), hb, hs, hT, hJ _ _ _ hj (Wrote.of_below (Below.refl _ wr).drew)⟩
      case round =>
        obtain ⟨pre', y, rfl, hy, hn', hb', hs', hT', hj'⟩ := hrel
        by_cases h0y : y = 0
        · subst h0y
          gi_wp2
          go_roundw
          case rel => exact ⟨pre', k + 1, by go_num, by omega, hid (by have := hn'.out; rwa [popN_zero] at this), hb', hs', hT', hj'⟩
          case measure => simp [intOf]; omega
        · have e0 : ((y : Int) != 0) = true := by simp; omega
          have HTZ := hid (tz64 y hy.out _ hT')
          have HP := hid (popN_and 64 y h0y hy.out)
          have hcb : Lib.ctz 64 y < 64 := (Lib.lowest_bit 64 y h0y hy.out).2
          obtain ⟨c, hc⟩ : ∃ c : Nat, Lib.ctz 64 y = c := ⟨_, rfl⟩
          rw [hc] at HTZ hcb
          gi_wp2_with fail
          refine inW HTZ.out ?_
          rintro e w2 ⟨rfl, rfl⟩
          obtain ⟨fn, tmps, assign, body, hy2, hR⟩ := hY pre' (64 * k + c) w2 hj' (by have := hn'.out; have := popN_pos 64 y h0y hy.out; have := tot_le W0 (k + 1); show pre'.length < 65536; omega)
          replace hy2 : (Instr.yield lb #[.int .i64 (64 * (k : Int) + c)]).run Tryz.prog w2 = _ := hy2
          have HR := hid hR
          clear hR
          gi_wp2_with fail
          refine ⟨rfl, HR.out.mono ?_⟩
          rintro e W3 (⟨rfl, hJ3, hk3⟩ | ⟨rfl, hJx3⟩)
          · have hx1 : IntKind.u64.wrap ((y : Int) - 1) = ((y - 1 : Nat) : Int) := by have := hy.out; rw [IntKind.wrap_u64]; omega
            have hx2 : bits BinOp.and IntKind.u64 (y : Int) ((y - 1 : Nat) : Int) = ((y &&& (y - 1) : Nat) : Int) := by
              have := hy.out
              rw [bits_and_u64_nat y _ this (by omega)]
            have hle : y &&& (y - 1) ≤ y - 1 := Nat.and_le_right
            have hn3 : (pre' ++ [(64 * (k : Int) + c)]).length + popN 64 (y &&& (y - 1)) = tot (k + 1) W0 := by
              have h1 := hn'.out
              have h2 := HP.out
              simp
              omega
            have hb3 : Boxed W3 B 178 _ := (hk3.keep B (by simp)).trans hb'
            have hs3 : Blk W3 s _ 181 := hs'.keep (hk3.keep s (by simp))
            have hT3 : TzAt W3 := hT'.block (hk3.keep 1 (by simp))
            gi_wp2
            go_roundw
            case rel => exact ⟨_, y &&& (y - 1), by first | rfl | rw [hx2], hid (by have := hy.out; omega), hid hn3, hb3, hs3, hT3, hJ3⟩
            case measure => simp [intOf, hx2]; omega
          · gi_wp2
            simp only [Exit.noGoto_normal]
            refine bodyPost_end (results_none rfl _ _ _) rfl ?_
            exact ⟨⟨_, rfl⟩, .inr ⟨_, trivial, hJx3⟩⟩
    · obtain rfl : k = 1024 := by omega
      gi_wp2
      simp only [Exit.noGoto_normal]
      refine bodyPost_end (results_none rfl _ _ _) rfl ?_
      exact ⟨⟨_, rfl⟩, .inl ⟨_, hn.out, hj⟩⟩
end Go.Proofs.YtoinabapaeebfaaGreatDoor
namespace Go.Proofs.YtoinabapaeebfaaGreatDoor
open Go.RowKit Go.Shelf
attribute [local go_sem] Oper.semAt_some

def CntI (w : World) (pre : List Int) (W : World) : Prop := Boxed W w.heap.size 3 (.int .i64 (pre.length : Int)) ∧ Below w.heap.size w W
set_option maxRecDepth 100000 in
set_option maxHeartbeats 1000000 in
theorem in_count (s : Nat) (W0 : Nat → Nat) (w : World) (B : Nat) (hs : Blk w s (setCells W0) 181) (hW0 : ∀ i, W0 i < 18446744073709551616) (hT : TzAt w) (hb : Boxed w B 178 (.pointer (some ⟨s, 0, none⟩))) :
    Calls Tryz.prog 170 #[.func (.func 190) #[] #[.pointer (some ⟨B, 0, none⟩)]] w fun e w' => e = .returned (.int .i64 (tot 1024 W0)) ∧ Below w.heap.size w w' := by
  have hBl := hb.lt
  have hsl := hs.lt
  have hTl := hT.lt
  refine calls_marks Tryz.func170 rfl ?_
  simp only [Tryz.ntmps170, List.size_toArray, List.length_cons, List.length_nil, Nat.reduceAdd, Nat.reduceSub, Array.replicate_succ, Array.replicate_zero, List.push_toArray, List.append_toArray, List.nil_append, List.cons_append]
  go_wp2_with fail
  generalize hWa : w.alloc (Obj.cells #[Value.int IntKind.i64 0] 3) = Wa
  have hsz : Wa.heap.size = w.heap.size + 1 := by rw [← hWa]; simp
  have hb0 : Below w.heap.size w Wa := by rw [← hWa]; exact (Below.refl _ w).alloc (Nat.le_refl _) _
  have hbx : Boxed Wa w.heap.size 3 (.int .i64 0) := by rw [← hWa]; exact Boxed.new w 3 (.int .i64 0)
  have HWa := hid hWa; clear hWa
  refine wp_range (α := Int) (gf := 190) (lb := #[.pointer (some ⟨B, 0, none⟩)]) rfl (enters_of Tryz.func190 (by kernel_rfl) rfl)
    (n₀ := 0) (L := [B, s, 1]) (M := []) (in_each1 s W0 Wa B (hs.below hb0) hW0 (hT.below hb0) (boxed_below hb hb0))
    (Nat.zero_le _) (by simp; omega) (by simp) (fun _ => rfl) (CntI w) (fun _ _ _ => False) ?hI ?hIx ?h0
    (fun pre x a' W => pre.length < 65536 ∧ a' = { tmps := #[.func (.func 190) #[] #[.pointer (some ⟨B, 0, none⟩)], undef, .int .i64 0, .pointer (some ⟨w.heap.size, 0, none⟩), .func (.func 190) #[] #[.pointer (some ⟨B, 0, none⟩)], .int .i64 x, undef, undef, undef], defers := [] }) ?hAx ?assign ?body ?done ?stop
  case hI =>
    rintro s' A A' ⟨g1, g2⟩ hw
    rw [hsz] at hw
    exact ⟨hw.boxed (by simp <;> omega) g1, g2.trans (hw.below g2.size (by simp <;> omega))⟩
  case hIx => exact fun _ _ _ _ h _ => h.elim
  case h0 => exact ⟨hbx, hb0⟩
  case hAx =>
    rintro pre x a' A A' ⟨hx, rfl⟩ hl hw
    exact ⟨hx, rfl⟩
  case assign =>
    intro pre x W K hl hi hx hK
    refine wpIn_skip ?_
    exact hK _ _ (Below.refl _ _) hi ⟨hx, by simp [encI]⟩
  case body =>
    rintro pre x a' W hl ⟨g1, g2⟩ ⟨hx, rfl⟩
    have c1 := g1.cell
    have f1 := g1.frozen
    have hwr : IntKind.i64.wrap ((pre.length : Int) + 1) = ((pre ++ [x]).length : Int) := by rw [IntKind.wrap_i64]; simp; omega
    gi_wp2
    refine ⟨Keep.setCell _ _ (by simp) (by simp <;> omega) _, ?_, g2.setCell (p := ⟨w.heap.size, 0, none⟩) (by simp) _⟩
    have := g1.set (.int .i64 ((pre ++ [x]).length : Int))
    simpa using this
  case done =>
    rintro xs W hS ⟨g1, g2⟩ hl hD
    have c1 := g1.cell
    go_wp2
    refine ret_mark (v := .int .i64 (tot 1024 W0)) hD (fun w' hw' => ?_)
    have wp : Wrote [Wa.heap.size] W w' := by rw [hw']; exact Wrote.putObj _ _ (by simp) _
    have d4 := (wp.boxed (by simp; omega) g1).cell
    exact ⟨by simp [results, Tryz.results170, go_sem, d4], rfl, g2.trans (wp.below g2.size (by simp; omega))⟩
  case stop => exact fun _ _ _ _ h _ _ => h.elim

theorem Inb.below {w w' : World} {b s : Nat} {most : Int} {W : Nat → Nat} (h : Inb w b s most W) (hb : Below w.heap.size w w') : Inb w' b s most W := ⟨h.box.below hb, h.set.below hb⟩

set_option maxRecDepth 100000 in
set_option maxHeartbeats 400000 in
theorem in_Len (b s : Nat) (most : Int) (W : Nat → Nat) (ids : List Nat) (w : World) (hI : Inb w b s most W) (hS : SetIs W ids) (hT : TzAt w) :
    Calls Tryz.prog 112 #[.pointer (some ⟨b, 0, none⟩)] w fun e w' => e = .returned (.int .i64 ids.length) ∧ Below w.heap.size w w' := by
  have CN := in_none w b s most hI.at
  have k0 := hI.at.set
  have CE := in_each s w
  have CC := in_count s W (w.alloc (.cells #[.pointer (some ⟨s, 0, none⟩)] 178)) w.heap.size (hI.set.alloc _) hS.lt (hT.below ((Below.refl _ w).alloc (Nat.le_refl _) _)) (Boxed.new w 178 (.pointer (some ⟨s, 0, none⟩)))
  rw [hS.tot] at CC
  go_enter Tryz.func112, Tryz.ntmps112
  go_wp2_with (first
    | (go_at_call 109; refine CN.mono ?_; rintro e w1 ⟨rfl, rfl⟩)
    | (go_at_call 127; refine CE.mono ?_; rintro e w1 ⟨rfl, rfl⟩)
    | (go_at_call 170; refine CC.mono ?_; rintro e w1 ⟨rfl, hb⟩))
  go_ret
  exact ⟨rfl, ((Below.refl _ w).alloc (Nat.le_refl _) _).trans (hb.mono (by simp))⟩

/-- What a coming, or a going, leaves. -/
structure InPost (b s : Nat) (most : Int) (W : Nat → Nat) (ids : List Nat) (w' : World) : Prop where
  inb : Inb w' b s most W
  set : SetIs W ids

set_option maxRecDepth 100000 in
set_option maxHeartbeats 400000 in
/-- One that is fresh comes. -/
theorem in_Come (b s : Nat) (most : Int) (W : Nat → Nat) (ids : List Nat) (z : Int) (w : World) (hI : Inb w b s most W) (hS : SetIs W ids) (hT : TzAt w) (h0 : 1 ≤ z) (h1 : z ≤ 65535) (hg : s ≠ 1) (hnot : z.toNat ∉ ids) (hl : (ids.length : Int) < most) :
    Calls Tryz.prog 54 #[.pointer (some ⟨b, 0, none⟩), .int .i64 z] w fun e w' => e = .returned (.tuple #[.bool true, .int .i64 0]) ∧ Inb w' b s most (tog W z.toNat) ∧ Wrote [s] w w' := by
  have CN := in_none w b s most hI.at
  have CM := in_may z w
  have hm : mayI z = true := by simp [mayI, h0, h1]
  rw [hm] at CM
  have CH := in_Has b s most W ids z w hI hS h0 h1
  have hd : decide (z.toNat ∈ ids) = false := decide_eq_false hnot
  rw [hd] at CH
  obtain ⟨n, hn⟩ : ∃ n : Int, (ids.length : Int) = n := ⟨_, rfl⟩
  have CL := hid fun (w1 : World) (hb : Below w.heap.size w w1) => in_Len b s most W ids w1 (hI.below hb) hS (hT.below hb)
  rw [hn] at CL
  have CT := hid fun (w1 : World) (hI : Inb w1 b s most W) => in_turn b s most W z w1 hI hS.lt h0 h1
  have kd : decide (most ≤ n) = false := decide_eq_false (by omega)
  clear hd hn hl
  go_enter Tryz.func54, Tryz.ntmps54
  go_wp2
  refine wp_scope_straight ?_
  go_wp2_with (first
    | (go_at_call 109; refine CN.mono ?_; rintro e w1 ⟨rfl, rfl⟩)
    | (go_at_call 110; refine CM.mono ?_; rintro e w1 ⟨rfl, rfl⟩)
    | (go_at_call 111; refine CH.mono ?_; rintro e w1 ⟨rfl, hb⟩))
  have kb : w1.cell? ⟨b, 1, none⟩ = some (.int .i64 most) := (hI.below hb).at.most
  clear CH CM CN
  refine regionQ [(1000, fun w' => w'.cell? ⟨b, 1, none⟩ = some (.int .i64 most))] (by kernel_rfl) ⟨by go_simp, trivial⟩ fun KQ hKQ => ?_
  refine takeQ 0 rfl (by kernel_rfl) rfl (by kernel_rfl) fun K hK => ?_
  simp only [List.getElem_toArray, List.getElem_cons_zero, List.getElem_cons_succ]
  go_big_quiet_op
  refine hK _ ?_
  clear hK K
  refine takeQ 2 rfl (by kernel_rfl) rfl (by kernel_rfl) fun K hK => ?_
  simp only [List.getElem_toArray, List.getElem_cons_zero, List.getElem_cons_succ]
  go_big_quiet_op
  refine hK _ ?_
  clear hK K
  refine nilQ 3 rfl (by kernel_rfl) (by kernel_rfl) rfl rfl ?_
  simp only [Act.put, List.getElem_toArray, List.getElem_cons_zero, List.getElem_cons_succ, List.setIfInBounds_toArray, List.set_cons_zero, List.set_cons_succ]
  refine takeQ 4 rfl (by kernel_rfl) rfl (by kernel_rfl) fun K hK => ?_
  simp only [List.getElem_toArray, List.getElem_cons_zero, List.getElem_cons_succ]
  go_big_quiet_op
  refine hK _ ?_
  clear hK K
  refine loadQ 5 rfl (by kernel_rfl) (by kernel_rfl) rfl rfl 0 rfl (by kernel_rfl) _ (fun w' hf => by (go_simp <;> with_reducible rfl)) ?_
  simp only [Act.put, List.getElem_toArray, List.getElem_cons_zero, List.getElem_cons_succ, List.setIfInBounds_toArray, List.set_cons_zero, List.set_cons_succ]
  refine stepQ 1 rfl (by kernel_rfl) (by decide) (by kernel_rfl) fun K hK => ?_
  simp only [List.getElem_toArray, List.getElem_cons_zero, List.getElem_cons_succ]
  go_simp
  refine (CL.out _ hb.drew).mono ?_
  rintro e w2 ⟨rfl, hb2⟩
  replace hb2 := hb.trans ((undrew hb2).mono hb.size)
  refine hK _ _ ⟨⟨fun _ => (hI.below hb2).at.most, trivial⟩, ?_⟩
  clear hK K
  refine takeQ 6 rfl (by kernel_rfl) rfl (by kernel_rfl) fun K hK => ?_
  simp only [List.getElem_toArray, List.getElem_cons_zero, List.getElem_cons_succ]
  go_big_quiet_op
  refine hK _ ?_
  clear hK K
  refine doneQ (by kernel_rfl) (hKQ.out _ _ ?_)
  clear hKQ KQ
  go_wp2_with (go_at_call 113; refine (CT.out _ (hI.below hb2)).mono ?_; rintro e w3 ⟨rfl, hi3, hw3⟩)
  simp only [Exit.noGoto_ret]
  go_returns
  exact ⟨rfl, hi3, (Wrote.of_below hb2).trans hw3⟩

set_option maxRecDepth 100000 in
set_option maxHeartbeats 400000 in
/-- One that is there goes. -/
theorem in_Go (b s : Nat) (most : Int) (W : Nat → Nat) (ids : List Nat) (z : Int) (w : World) (hI : Inb w b s most W) (hS : SetIs W ids) (h0 : 1 ≤ z) (h1 : z ≤ 65535) (hin : z.toNat ∈ ids) :
    Calls Tryz.prog 193 #[.pointer (some ⟨b, 0, none⟩), .int .i64 z] w fun e w' => e = .returned (.tuple #[.bool true, .int .i64 0]) ∧ Inb w' b s most (tog W z.toNat) ∧ Wrote [s] w w' := by
  have CN := in_none w b s most hI.at
  have CM := in_may z w
  have hm : mayI z = true := by simp [mayI, h0, h1]
  rw [hm] at CM
  have CH := in_Has b s most W ids z w hI hS h0 h1
  have hd : decide (z.toNat ∈ ids) = true := decide_eq_true hin
  rw [hd] at CH
  have CT := hid fun (w1 : World) (hI : Inb w1 b s most W) => in_turn b s most W z w1 hI hS.lt h0 h1
  clear hd
  go_enter Tryz.func193, Tryz.ntmps193
  go_wp2_with (first
    | (go_at_call 109; refine CN.mono ?_; rintro e w1 ⟨rfl, rfl⟩)
    | (go_at_call 110; refine CM.mono ?_; rintro e w1 ⟨rfl, rfl⟩)
    | (go_at_call 111; refine CH.mono ?_; rintro e w1 ⟨rfl, hb⟩)
    | (go_at_call 113; refine (CT.out _ (hI.below hb)).mono ?_; rintro e w3 ⟨rfl, hi3, hw3⟩))
  go_returns
  exact ⟨rfl, hi3, (Wrote.of_below hb).trans hw3⟩
end Go.Proofs.YtoinabapaeebfaaGreatDoor
