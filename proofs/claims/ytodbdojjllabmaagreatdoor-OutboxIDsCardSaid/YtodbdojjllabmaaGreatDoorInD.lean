/- Contracts of package inbox (part 4): each, count, Len. -/
import Derived.Test.YtodbdojjllabmaaGreatDoorInC
import Derived.Test.YtodbdojjllabmaaGreatDoorUtfD
import Derived.BigRegionIn
import Derived.RegionIn
namespace Go.Proofs.YtodbdojjllabmaaGreatDoor
open Go.RowKit Go.Shelf
attribute [local go_sem] Oper.semAt_some

def encI (x : Int) : Array Value := #[.int .i64 x]
theorem TzAt.block {w w' : World} (h : TzAt w) (hk : w'.heap[0]? = w.heap[0]?) : TzAt w' := by
  refine h.keep fun p v hp hc => ?_
  unfold World.cell? at hc ⊢
  rw [hp] at hc ⊢
  rw [hk]; exact hc
theorem TzAt.lt {w : World} (h : TzAt w) : 0 < w.heap.size := cell_lt (p := ⟨0, 0, none⟩) (h 0 (by decide))
theorem TzAt.below {w w' : World} (h : TzAt w) (hb : Below w.heap.size w w') : TzAt w' := h.block (hb.block _ h.lt)
theorem TzAt.wrote {M : List Nat} {w w' : World} (h : TzAt w) (hb : Wrote M w w') (hM : 0 ∉ M) : TzAt w' := h.block (hb.block _ h.lt hM)

set_option maxRecDepth 100000 in
set_option maxHeartbeats 400000 in
theorem in_each (s : Nat) (w : World) :
    Calls Tryz.prog 65 #[.pointer (some ⟨s, 0, none⟩)] w fun e w' => e = .returned (.func (.func 116) #[] #[.pointer (some ⟨w.heap.size, 0, none⟩)]) ∧ w.alloc (.cells #[.pointer (some ⟨s, 0, none⟩)] 106) = w' := by
  go_enter Tryz.func65, Tryz.ntmps65
  go_wp2
  go_ret
  exact ⟨rfl, rfl⟩

theorem popN_pos (n w : Nat) (h0 : w ≠ 0) (h : w < 2 ^ n) : 0 < popN n w := by have := popN_and n w h0 h; omega

set_option maxRecDepth 100000 in
set_option maxHeartbeats 1000000 in
theorem in_each1 (s : Nat) (W0 : Nat → Nat) (w : World) (B : Nat) (hs : Blk w s (setCells W0) 109) (hW0 : ∀ i, W0 i < 18446744073709551616) (hT : TzAt w) (hb : Boxed w B 106 (.pointer (some ⟨s, 0, none⟩))) :
    SeqG Tryz.prog 116 #[.pointer (some ⟨B, 0, none⟩)] encI (Keep 0 [B, s, 0]) (Wrote []) (fun pre _ _ => pre.length < 65536) (fun xs => xs.length = tot 1024 W0) (fun _ => True) w := by
  intro lb J Jx W hW hlb hJ hJx hY h0
  have hb := boxed_below hb hW
  have hs := hs.below hW
  have hT := hT.below hW
  refine callsIn_of_wp Tryz.func116 rfl trivial ?_ rfl
  simp only [Tryz.ntmps116, List.size_toArray, List.length_cons, List.length_nil, Nat.reduceAdd, Nat.reduceSub, Array.replicate_succ, Array.replicate_zero, List.push_toArray, List.append_toArray, List.nil_append, List.cons_append]
  have hc1 := hb.cell
  gi_wp2
  refine wpIn_wide.2 (wp_scope_straight ((wpIn_wide (n := 0)).1 ?_))
  refine wpIn_seq (wpIn_label ?_)
  simp only [go_sem]
  gi_wp2
  gi_loopw [3, 4, 6] (fun _ _ i wr => ∃ (pre : List Int) (k : Nat), i = .int .i64 k ∧ k ≤ 1024 ∧ Hid (pre.length = tot k W0) ∧ Boxed wr B 106 (.pointer (some ⟨s, 0, none⟩)) ∧ Blk wr s (setCells W0) 109 ∧ TzAt wr ∧ J pre wr)
    (fun _ _ i _ => 1024 - (intOf i).toNat)
  case atStart => exact ⟨[], 0, rfl, Nat.zero_le _, hid rfl, hb, hs, hT, h0⟩
  case round =>
    obtain ⟨pre, k, rfl, hk, hn, hb, hs, hT, hj⟩ := hrel
    rcases Nat.lt_or_ge k 1024 with hlt | hge
    · obtain ⟨x, hx⟩ : ∃ x : Int, (W0 k : Int) = x := ⟨_, rfl⟩
      have dk : decide ((k : Int) < 1024) = true := decide_eq_true (by omega)
      have kc1 : wr.cell? ⟨s, k, none⟩ = some (.int .u64 x) := by
        have := hs.cell k
        rw [setCells_get _ _ hlt, hx] at this
        exact this
      gi_wp2
      gi_region
      gi_wp2
      gi_loopw [4] (fun v wi => ∃ (pre' : List Int) (y : Nat), v = .int .u64 y ∧ Hid (y < 18446744073709551616) ∧ Hid (pre'.length + popN 64 y = tot (k + 1) W0) ∧ Boxed wi B 106 (.pointer (some ⟨s, 0, none⟩)) ∧ Blk wi s (setCells W0) 109 ∧ TzAt wi ∧ J pre' wi)
        (fun v _ => (intOf v).toNat)
      case atStart => exact ⟨pre, W0 k, by rw [hx], hW0 k, (by rw [hn.out]; rfl), hb, hs, hT, hJ _ _ _ hj (Wrote.of_below (Below.refl _ wr).drew)⟩
      case round =>
        obtain ⟨pre', y, rfl, hy, hn', hb', hs', hT', hj'⟩ := hrel
        by_cases h0y : y = 0
        · subst h0y
          gi_wp2
          go_roundw
          case rel => exact ⟨pre', k + 1, by go_num, by omega, hid (by have := hn'.out; rwa [popN_zero] at this), hb', hs', hT', hj'⟩
          case measure => simp [intOf]; omega
        · have e0 : ((y : Int) != 0) = true := by simp; omega
          have HTZ := hid (tz64 y hy.out _ hT')
          have HP := hid (popN_and 64 y h0y hy.out)
          have hcb : Lib.ctz 64 y < 64 := (Lib.lowest_bit 64 y h0y hy.out).2
          obtain ⟨c, hc⟩ : ∃ c : Nat, Lib.ctz 64 y = c := ⟨_, rfl⟩
          rw [hc] at HTZ hcb
          gi_wp2_with fail
          refine inW HTZ.out ?_
          rintro e w2 ⟨rfl, rfl⟩
          obtain ⟨fn, tmps, assign, body, hy2, hR⟩ := hY pre' (64 * k + c) w2 hj' (by have := hn'.out; have := popN_pos 64 y h0y hy.out; have := tot_le W0 (k + 1); show pre'.length < 65536; omega)
          replace hy2 : (Instr.yield lb #[.int .i64 (64 * (k : Int) + c)]).run Tryz.prog w2 = _ := hy2
          have HR := hid hR
          clear hR
          gi_wp2_with fail
          refine ⟨rfl, HR.out.mono ?_⟩
          rintro e W3 (⟨rfl, hJ3, hk3⟩ | ⟨rfl, hJx3⟩)
          · have hx1 : IntKind.u64.wrap ((y : Int) - 1) = ((y - 1 : Nat) : Int) := by have := hy.out; rw [IntKind.wrap_u64]; omega
            have hx2 : bits BinOp.and IntKind.u64 (y : Int) ((y - 1 : Nat) : Int) = ((y &&& (y - 1) : Nat) : Int) := by
              have := hy.out
              rw [bits_and_u64_nat y _ this (by omega)]
            have hle : y &&& (y - 1) ≤ y - 1 := Nat.and_le_right
            have hn3 : (pre' ++ [(64 * (k : Int) + c)]).length + popN 64 (y &&& (y - 1)) = tot (k + 1) W0 := by
              have h1 := hn'.out
              have h2 := HP.out
              simp
              omega
            have hb3 : Boxed W3 B 106 _ := (hk3.keep B (by simp)).trans hb'
            have hs3 : Blk W3 s _ 109 := hs'.keep (hk3.keep s (by simp))
            have hT3 : TzAt W3 := hT'.block (hk3.keep 0 (by simp))
            gi_wp2
            go_roundw
            case rel => exact ⟨_, y &&& (y - 1), by first | rfl | rw [hx2], hid (by have := hy.out; omega), hid hn3, hb3, hs3, hT3, hJ3⟩
            case measure => simp [intOf, hx2]; omega
          · gi_wp2
            simp only [Exit.noGoto_normal]
            refine bodyPost_end (results_none rfl _ _ _) rfl ?_
            exact ⟨⟨_, rfl⟩, .inr ⟨_, trivial, hJx3⟩⟩
    · obtain rfl : k = 1024 := by omega
      gi_wp2
      simp only [Exit.noGoto_normal]
      refine bodyPost_end (results_none rfl _ _ _) rfl ?_
      exact ⟨⟨_, rfl⟩, .inl ⟨_, hn.out, hj⟩⟩
end Go.Proofs.YtodbdojjllabmaaGreatDoor
