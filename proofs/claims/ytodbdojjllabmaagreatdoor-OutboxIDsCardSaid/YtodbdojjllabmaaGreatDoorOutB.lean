/- Contracts of package outbox (part 2): none, changes, says. -/
import Derived.Test.YtodbdojjllabmaaGreatDoorOutA
namespace Go.Proofs.YtodbdojjllabmaaGreatDoor
open Go.RowKit Go.Shelf

theorem flatMap_snoc {α : Type} (l : List α) (x : α) (f : α → List Value) : (l ++ [x]).flatMap f = l.flatMap f ++ f x := by simp

theorem own_slice {w : World} {base : Nat} {e : TypeId} {size : Nat} {v : Value} {n : Nat} {xs : List Value} (h : w.ownsRow base e size v n xs) : ∃ a cap, v = .slice a n cap := by
  obtain ⟨_, ⟨rfl, rfl⟩ | ⟨g, cap, cur, rfl, _⟩⟩ := h
  · exact ⟨_, _, rfl⟩
  · exact ⟨_, _, rfl⟩
theorem ChangeV.one (c : ChangeV) : ∀ u ∈ c.cells, u.oneCell' = true := by simp [ChangeV.cells, RowV.vals, Value.oneCell']
theorem PackV.one (c : PackV) : ∀ u ∈ c.cells, u.oneCell' = true := by simp [PackV.cells, Value.oneCell']

set_option maxRecDepth 100000 in
set_option maxHeartbeats 400000 in
theorem out_none {w : World} {B : Nat} {L : Lay} {s : OS} {ps : List PackV} {cs : List ChangeV} (h : OB w B L s ps cs) :
    Calls Tryz.prog 31 #[.pointer (some ⟨L.p, 0, none⟩)] w fun e w' => e = .returned (.bool false) ∧ w = w' := by
  have c0 : w.cell? ⟨L.p, 0, none⟩ = some (.pointer (some ⟨L.ib, 0, none⟩)) := h.box.cell 0
  go_enter Tryz.func31, Tryz.ntmps31
  go_wp2
  go_ret
  simp

set_option maxRecDepth 100000 in
set_option maxHeartbeats 400000 in
theorem out_changes {w : World} {B : Nat} {L : Lay} {s : OS} {ps : List PackV} {cs : List ChangeV} (h : OB w B L s ps cs) (c : ChangeV) (g : Nat) (hg : Blk w g c.cells.toArray 90) (hn : cs.length < 1000000) :
    Calls Tryz.prog 32 #[.pointer (some ⟨L.p, 0, none⟩), .slice (some ⟨g, 0, none⟩) 1 1] w fun e w' => e = .returned (.tuple #[]) ∧ ∃ v, OB w' B { L with vc := v } s ps (cs ++ [c]) ∧ Stp L.foot { L with vc := v : Lay }.foot w w' := by
  obtain ⟨p, ib, sb, vl, vp, vc, rb, W⟩ := L
  have c8 : w.cell? ⟨p, 8, none⟩ = some vc := h.box.cell 8
  have f8 := h.box.frozen 8
  dsimp only at *
  have HR := hid h.chgs
  dsimp only at HR
  go_enter Tryz.func32, Tryz.ntmps32
  go_wp2_with (at_builtin; refine append_grp rfl _ _ rfl eChg (by decide) B vc cs.length (cs.flatMap ChangeV.cells) rfl HR.out g c.cells 90 rfl hg rfl c.one (by omega) (by omega) h.base ?_; intro v' w1 r1 g1 n1; have hw1 : WT 90 w w1 := WT.row HR.out g1; have b1 := h.box.wt hw1 (by decide); have f1 := b1.frozen 8; have k1 := b1.cell 8; dsimp only at f1 k1 b1; obtain ⟨a', cap', rfl⟩ := own_slice r1)
  go_end0
  have hw2 : WT 77 w1 (w1.setCell ⟨p, 8, none⟩ (.slice a' (cs.length + 1) cap')) := WT.set b1 8 _
  have hst : Wrote (Lay.foot ⟨p, ib, sb, vl, vp, vc, rb, W⟩) w (w1.setCell ⟨p, 8, none⟩ (.slice a' (cs.length + 1) cap')) := by
    refine (Wrote.of_grown g1 (fun k hk => ?_)).trans (Wrote.setCell w1 _ (by simp [Lay.foot]) _)
    simp [Lay.foot, mem_blk, hk]
  have hsub : ∀ x ∈ Lay.foot { p := p, ib := ib, sb := sb, vl := vl, vp := vp, rb := rb, W := W, vc := .slice a' (cs.length + 1) cap' }, x ∈ Lay.foot ⟨p, ib, sb, vl, vp, vc, rb, W⟩ ∨ w.heap.size ≤ x := by
    intro x hx
    simp only [Lay.foot, List.mem_cons, List.mem_append, mem_blk] at hx ⊢
    have := n1 x
    rcases hx with hx | hx | hx | ((hx | hx) | hx) | hx
    all_goals first | (simp [hx]; done) | (rcases this hx with h1 | h1 <;> simp [h1])
  refine ⟨rfl, .slice a' (cs.length + 1) cap', ⟨Nat.le_trans h.base hst.size, b1.set 8 _, ⟨(h.inb.box.wt hw1 (by decide)).wt hw2 (by decide), (h.inb.set.wt hw1 (by decide)).wt hw2 (by decide)⟩, h.set, row_wt (row_wt h.rows hw1 (by decide)) hw2 (by decide), h.len, fun i b r h1 h2 => ((h.cells i b r h1 h2).wt hw1 (by decide)).wt hw2 (by decide), h.nodup, row_wt (row_wt h.packs hw1 (by decide)) hw2 (by decide), by simpa using row_wt r1 hw2 (by decide), h.tz.wrote hst h.gg, ?_, h.ok⟩, hst, hsub⟩
  intro hx
  rcases hsub _ hx with h1 | h1
  · exact h.gg h1
  · have := h.tz.lt
    omega

set_option maxRecDepth 100000 in
set_option maxHeartbeats 400000 in
theorem out_says {w : World} {B : Nat} {L : Lay} {s : OS} {ps : List PackV} {cs : List ChangeV} (h : OB w B L s ps cs) (c : PackV) (g : Nat) (hg : Blk w g c.cells.toArray 45) (hn : ps.length < 1000000) :
    Calls Tryz.prog 40 #[.pointer (some ⟨L.p, 0, none⟩), .slice (some ⟨g, 0, none⟩) 1 1] w fun e w' => e = .returned (.tuple #[]) ∧ ∃ v, OB w' B { L with vp := v } s (ps ++ [c]) cs ∧ Stp L.foot { L with vp := v : Lay }.foot w w' := by
  obtain ⟨p, ib, sb, vl, vp, vc, rb, W⟩ := L
  have c8 : w.cell? ⟨p, 7, none⟩ = some vp := h.box.cell 7
  have f8 := h.box.frozen 7
  dsimp only at *
  have HR := hid h.packs
  dsimp only at HR
  go_enter Tryz.func40, Tryz.ntmps40
  go_wp2_with (at_builtin; refine append_grp rfl _ _ rfl ePack (by decide) B vp ps.length (ps.flatMap PackV.cells) rfl HR.out g c.cells 45 rfl hg rfl c.one (by omega) (by omega) h.base ?_; intro v' w1 r1 g1 n1; have hw1 : WT 45 w w1 := WT.row HR.out g1; have b1 := h.box.wt hw1 (by decide); have f1 := b1.frozen 7; have k1 := b1.cell 7; dsimp only at f1 k1 b1; obtain ⟨a', cap', rfl⟩ := own_slice r1)
  go_end0
  have hw2 : WT 77 w1 (w1.setCell ⟨p, 7, none⟩ (.slice a' (ps.length + 1) cap')) := WT.set b1 7 _
  have hst : Wrote (Lay.foot ⟨p, ib, sb, vl, vp, vc, rb, W⟩) w (w1.setCell ⟨p, 7, none⟩ (.slice a' (ps.length + 1) cap')) := by
    refine (Wrote.of_grown g1 (fun k hk => ?_)).trans (Wrote.setCell w1 _ (by simp [Lay.foot]) _)
    simp [Lay.foot, mem_blk, hk]
  have hsub : ∀ x ∈ Lay.foot { p := p, ib := ib, sb := sb, vl := vl, vc := vc, rb := rb, W := W, vp := .slice a' (ps.length + 1) cap' }, x ∈ Lay.foot ⟨p, ib, sb, vl, vp, vc, rb, W⟩ ∨ w.heap.size ≤ x := by
    intro x hx
    simp only [Lay.foot, List.mem_cons, List.mem_append, mem_blk] at hx ⊢
    have := n1 x
    rcases hx with hx | hx | hx | ((hx | hx) | hx) | hx
    all_goals first | (simp [hx]; done) | (rcases this hx with h1 | h1 <;> simp [h1])
  refine ⟨rfl, .slice a' (ps.length + 1) cap', ⟨Nat.le_trans h.base hst.size, b1.set 7 _, ⟨(h.inb.box.wt hw1 (by decide)).wt hw2 (by decide), (h.inb.set.wt hw1 (by decide)).wt hw2 (by decide)⟩, h.set, row_wt (row_wt h.rows hw1 (by decide)) hw2 (by decide), h.len, fun i b r h1 h2 => ((h.cells i b r h1 h2).wt hw1 (by decide)).wt hw2 (by decide), h.nodup, by simpa using row_wt r1 hw2 (by decide), row_wt (row_wt h.chgs hw1 (by decide)) hw2 (by decide), h.tz.wrote hst h.gg, ?_, h.ok⟩, hst, hsub⟩
  intro hx
  rcases hsub _ hx with h1 | h1
  · exact h.gg h1
  · have := h.tz.lt
    omega

end Go.Proofs.YtodbdojjllabmaaGreatDoor
