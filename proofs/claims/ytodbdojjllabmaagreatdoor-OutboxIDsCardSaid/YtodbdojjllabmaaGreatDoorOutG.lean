/- Contracts of package outbox (part 7): first. -/
import Derived.Test.YtodbdojjllabmaaGreatDoorOutF
import Derived.Test.YtodbdojjllabmaaGreatDoorPop
import Derived.Deep.LoopGhost
namespace Go.Proofs.YtodbdojjllabmaaGreatDoor
open Go.RowKit Go.Shelf

set_option maxRecDepth 100000 in
set_option maxHeartbeats 400000 in
theorem out_first {w : World} {B : Nat} {L : Lay} {s : OS} {ps : List PackV} {cs : List ChangeV} (h : OB w B L s ps cs) (c : Nat) (hc : Boxed w c 23 (.pointer (some ⟨L.p, 0, none⟩))) (z : Int) (hz : 1 ≤ z ∧ z ≤ 65535) :
    Calls Tryz.prog 58 #[.int .i64 z, .int .i64 65535, .func (.func 59) #[] #[.pointer (some ⟨c, 0, none⟩)]] w fun e w' => e = .returned (.int .i64 (firstI (idsOf s.l).length z (idsOf s.l))) ∧ Below w.heap.size w w' := by
  obtain ⟨ids, hids⟩ : ∃ ids, idsOf s.l = ids := ⟨_, rfl⟩
  have hlen : ids.length < 65535 := by have h1 := h.ok.under; have h2 := h.ok.win; rw [hids] at h1; omega
  have CS := hid fun (w1 : World) (hb : Below w.heap.size w w1) (y : Int) (h0 : 1 ≤ y) (h1 : y ≤ 65535) => out_send1 (h.below hb) c (boxed_below hc hb) y h0 h1
  rw [hids] at CS ⊢
  obtain ⟨Y, hY⟩ : ∃ Y, firstI ids.length z ids = Y := ⟨_, rfl⟩
  have hfree : Y.toNat ∉ ids := by rw [← hY]; exact firstI_free z ids hz hlen
  rw [hY]
  go_enter Tryz.func58, Tryz.ntmps58
  go_wp2
  go_loopg [0] ids.length (fun g v wr => ∃ (y : Int), v = .int .i64 y ∧ (1 ≤ y ∧ y ≤ 65535) ∧ Hid (firstI g y ids = Y) ∧ Below w.heap.size w wr)
  case atStart => exact ⟨z, rfl, hz, hid hY, Below.refl _ _⟩
  case round =>
    obtain ⟨y, rfl, ⟨hy1, hy2⟩, hf, hb⟩ := hrel
    have CB := hid fun (w1 : World) => out_behind y w1 (by omega) hy2
    have CS1 := hid (CS.out _ hb y hy1 hy2)
    by_cases hin : y.toNat ∈ ids
    · have hd : decide (y.toNat ∈ ids) = true := decide_eq_true hin
      rw [hd] at CS1
      cases gk with
      | zero => exact absurd hin (by have := hf.out; unfold firstI at this; rw [this]; exact hfree)
      | succ g =>
        have hf2 : firstI g (nxt y) ids = Y := by have := hf.out; unfold firstI at this; rwa [if_pos hin] at this
        have hr := nxt_range y
        unfold nxt at hf2 hr
        go_wp2_with (first
          | (go_at_call 59; refine CS1.out.mono ?_; rintro e w1 ⟨rfl, hb1⟩)
          | (go_at_call 60; refine (CB.out _).mono ?_; rintro e w2 ⟨rfl, rfl⟩))
        go_roundg g
        case rel => exact ⟨_, rfl, hr, hid hf2, hb.trans (hb1.mono hb.size)⟩
        case measure => omega
    · have hd : decide (y.toNat ∈ ids) = false := decide_eq_false hin
      rw [hd] at CS1
      go_wp2_with (first
          | (go_at_call 59; refine CS1.out.mono ?_; rintro e w1 ⟨rfl, hb1⟩)
          | (go_at_call 60; refine (CB.out _).mono ?_; rintro e w2 ⟨rfl, rfl⟩))
      have hyy : y = Y := by
        have := hf.out
        cases gk with
        | zero => exact this
        | succ g => unfold firstI at this; rwa [if_neg hin] at this
      go_ret
      exact ⟨by rw [← hyy]; rfl, hb.trans (hb1.mono hb.size)⟩
end Go.Proofs.YtodbdojjllabmaaGreatDoor
