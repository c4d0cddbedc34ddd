/- Contracts of package outbox (part 4): Put. -/
import Derived.Test.YtodbdojjllabmaaGreatDoorOutC
namespace Go.Proofs.YtodbdojjllabmaaGreatDoor
open Go.RowKit Go.Shelf

/-- What a call of an outbox leaves, and tells. -/
structure DidAt (w w' : World) (L L' : Lay) (s' : OS) (vp vc : Value) (ps : List PackV) (cs : List ChangeV) : Prop where
  ob : OB w' w'.heap.size L' s' [] []
  nil : L'.vp = .slice none 0 0 ∧ L'.vc = .slice none 0 0
  p : L'.p = L.p
  stp : Stp L.foot L'.foot w w'
  packs : w'.ownsRow w.heap.size 45 24 vp ps.length (ps.flatMap PackV.cells)
  chgs : w'.ownsRow w.heap.size 90 10 vc cs.length (cs.flatMap ChangeV.cells)

theorem idsOf_push (l : List RowV) (r : RowV) (h : r.stage = 1) : idsOf (l ++ [r]) = idsOf l := by simp [idsOf, h]

/-- One more row. -/
theorem OB.push {w w1 : World} {B : Nat} {L : Lay} {s : OS} {ps : List PackV} {cs : List ChangeV} (h : OB w B L s ps cs) (r : RowV) (b : Nat) (hb : Blk w b r.vals 30) (hnb : b ∉ L.foot) (hgb : b ≠ 0) (hst : r.stage = 1) (v' : Value)
    (r1 : w1.ownsRow 0 84 1 v' (s.l.length + 1) (ptrs L.rb ++ [.pointer (some ⟨b, 0, none⟩)])) (g1 : w.grownBy w1 L.vl.ownBlock) (n1 : ∀ k, v'.ownBlock = some k → L.vl.ownBlock = some k ∨ w.heap.size ≤ k)
    (hok : OS.OK { s with l := s.l ++ [r] }) :
    OB (w1.setCell ⟨L.p, 6, none⟩ v') B { L with vl := v', rb := L.rb ++ [b] } { s with l := s.l ++ [r] } ps cs ∧ Wrote L.foot w (w1.setCell ⟨L.p, 6, none⟩ v') ∧ (∀ x ∈ ({ L with vl := v', rb := L.rb ++ [b] } : Lay).foot, x ∈ L.foot ∨ x = b ∨ w.heap.size ≤ x) := by
  obtain ⟨p, ib, sb, vl, vp, vc, rb, W⟩ := L
  dsimp only at *
  have hw1 : WT 84 w w1 := WT.row h.rows g1
  have b1 := h.box.wt hw1 (by decide)
  have hw2 : WT 77 w1 (w1.setCell ⟨p, 6, none⟩ v') := WT.set b1 6 _
  have hst' : Wrote (Lay.foot ⟨p, ib, sb, vl, vp, vc, rb, W⟩) w (w1.setCell ⟨p, 6, none⟩ v') := by
    refine (Wrote.of_grown g1 (fun k hk => ?_)).trans (Wrote.setCell w1 _ (by simp [Lay.foot]) _)
    simp [Lay.foot, mem_blk, hk]
  have hsub : ∀ x ∈ Lay.foot ⟨p, ib, sb, v', vp, vc, rb ++ [b], W⟩, x ∈ Lay.foot ⟨p, ib, sb, vl, vp, vc, rb, W⟩ ∨ x = b ∨ w.heap.size ≤ x := by
    intro x hx
    simp only [Lay.foot, List.mem_cons, List.mem_append, mem_blk, List.mem_singleton, List.not_mem_nil, or_false] at hx ⊢
    have := n1 x
    rcases hx with hx | hx | hx | ((hx | hx) | hx) | hx | hx
    all_goals first | (simp [hx]; done) | (rcases this hx with h1 | h1 <;> simp [h1])
  refine ⟨⟨Nat.le_trans h.base hst'.size, b1.set 6 _, ⟨(h.inb.box.wt hw1 (by decide)).wt hw2 (by decide), (h.inb.set.wt hw1 (by decide)).wt hw2 (by decide)⟩, ?_, ?_, ?_, ?_, ?_, row_wt (row_wt h.packs hw1 (by decide)) hw2 (by decide), row_wt (row_wt h.chgs hw1 (by decide)) hw2 (by decide), h.tz.wrote hst' h.gg, ?_, hok⟩, hst', hsub⟩
  · show SetIs W (idsOf (s.l ++ [r]))
    rw [idsOf_push _ _ hst]; exact h.set
  · have := row_wt r1 hw2 (by decide)
    simpa [ptrs] using this
  · simp [h.len]
  · intro i b' r' h1 h2
    have hl := h.len
    dsimp only at hl h1 h2
    rcases Nat.lt_or_ge i s.l.length with hi | hi
    · rw [List.getElem?_append_left (by omega)] at h1 h2
      exact ((h.cells i b' r' h1 h2).wt hw1 (by decide)).wt hw2 (by decide)
    · rw [List.getElem?_append_right (by omega)] at h1 h2
      have e1 : i - s.l.length = 0 := by
        rcases Nat.eq_zero_or_pos (i - s.l.length) with h | h
        · exact h
        · rw [List.getElem?_eq_none (by simp; omega)] at h2; cases h2
      rw [e1] at h2
      rw [hl, e1] at h1
      simp at h1 h2
      subst h1 h2
      exact (hb.wt hw1 (by decide)).wt hw2 (by decide)
  · have hn : b ∉ rb := fun hm => hnb (by simp [Lay.foot, hm])
    show (rb ++ [b]).Nodup
    rw [List.nodup_append]
    refine ⟨h.nodup, by simp, fun a ha c hc => ?_⟩
    simp at hc
    subst hc
    exact fun e => hn (e ▸ ha)
  · intro hx
    rcases hsub _ hx with h1 | h1 | h1
    · exact h.gg h1
    · exact hgb h1.symm
    · have := h.tz.lt; omega
/-- Another number. -/
theorem OB.setSeq {w : World} {B : Nat} {L : Lay} {s : OS} {ps : List PackV} {cs : List ChangeV} (h : OB w B L s ps cs) (z : Int) (hz : 0 ≤ z ∧ z ≤ 4611686018427387905) :
    OB (w.setCell ⟨L.p, 4, none⟩ (.int .i64 z)) B L { s with seq := z } ps cs ∧ Stp L.foot L.foot w (w.setCell ⟨L.p, 4, none⟩ (.int .i64 z)) := by
  have hw2 : WT 77 w (w.setCell ⟨L.p, 4, none⟩ (.int .i64 z)) := WT.set h.box 4 _
  have hst : Wrote L.foot w (w.setCell ⟨L.p, 4, none⟩ (.int .i64 z)) := Wrote.setCell w _ (by simp [Lay.foot]) _
  exact ⟨⟨Nat.le_trans h.base hst.size, h.box.set 4 _, ⟨h.inb.box.wt hw2 (by decide), h.inb.set.wt hw2 (by decide)⟩, h.set, row_wt h.rows hw2 (by decide), h.len, fun i b r h1 h2 => (h.cells i b r h1 h2).wt hw2 (by decide), h.nodup, row_wt h.packs hw2 (by decide), row_wt h.chgs hw2 (by decide), h.tz.wrote hst h.gg, h.gg,
    ⟨h.ok.win, h.ok.room, hz, h.ok.id, h.ok.cl, h.ok.ids, h.ok.nodup, h.ok.under⟩⟩, hst, fun x hx => .inl hx⟩
theorem OB.setId {w : World} {B : Nat} {L : Lay} {s : OS} {ps : List PackV} {cs : List ChangeV} (h : OB w B L s ps cs) (z : Int) (hz : 1 ≤ z ∧ z ≤ 65535) :
    OB (w.setCell ⟨L.p, 5, none⟩ (.int .i64 z)) B L { s with id := z } ps cs ∧ Stp L.foot L.foot w (w.setCell ⟨L.p, 5, none⟩ (.int .i64 z)) := by
  have hw2 : WT 77 w (w.setCell ⟨L.p, 5, none⟩ (.int .i64 z)) := WT.set h.box 5 _
  have hst : Wrote L.foot w (w.setCell ⟨L.p, 5, none⟩ (.int .i64 z)) := Wrote.setCell w _ (by simp [Lay.foot]) _
  exact ⟨⟨Nat.le_trans h.base hst.size, h.box.set 5 _, ⟨h.inb.box.wt hw2 (by decide), h.inb.set.wt hw2 (by decide)⟩, h.set, row_wt h.rows hw2 (by decide), h.len, fun i b r h1 h2 => (h.cells i b r h1 h2).wt hw2 (by decide), h.nodup, row_wt h.packs hw2 (by decide), row_wt h.chgs hw2 (by decide), h.tz.wrote hst h.gg, h.gg,
    ⟨h.ok.win, h.ok.room, h.ok.seq, hz, h.ok.cl, h.ok.ids, h.ok.nodup, h.ok.under⟩⟩, hst, fun x hx => .inl hx⟩
end Go.Proofs.YtodbdojjllabmaaGreatDoor
