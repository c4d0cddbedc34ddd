/- Contracts of package outbox (part 14): a row that goes, plainly. -/
import Derived.Test.YtodbdojjllabmaaGreatDoorOutM
namespace Go.Proofs.YtodbdojjllabmaaGreatDoor
open Go.RowKit Go.Shelf

def SS.gone (x : SS) (k : Nat) : SS := match x.s.l[k]? with
  | none => x
  | some r => ⟨{ x.s with l := x.s.l.eraseIdx k }, x.ps, x.cs ++ [⟨true, r⟩]⟩

theorem ids_erase (l : List RowV) (k : Nat) (r : RowV) (h : l[k]? = some r) (h1 : r.stage ≠ 1) : (idsOf l).Perm (r.id.toNat :: idsOf (l.eraseIdx k)) := by
  induction l generalizing k with
  | nil => simp at h
  | cons x l ih =>
    cases k with
    | zero =>
      simp at h
      subst h
      simp [idsOf, h1]
    | succ k =>
      simp at h
      have := ih k h
      by_cases hx : x.stage = 1
      · simpa [idsOf, hx] using this
      · have e1 : idsOf (x :: l) = x.id.toNat :: idsOf l := by simp [idsOf, hx]
        have e2 : idsOf ((x :: l).eraseIdx (k + 1)) = x.id.toNat :: idsOf (l.eraseIdx k) := by simp [idsOf, hx]
        rw [e1, e2]
        exact (this.cons _).trans (List.Perm.swap _ _ _)

theorem erase_map {α β : Type} (f : α → β) (l : List α) (k : Nat) : (l.eraseIdx k).map f = (l.map f).eraseIdx k := by
  induction l generalizing k with
  | nil => rfl
  | cons x l ih => cases k <;> simp [ih]
theorem eraseIdx_get {α : Type} (l : List α) (k i : Nat) : (l.eraseIdx k)[i]? = if i < k then l[i]? else l[i + 1]? := by
  rw [List.getElem?_eraseIdx]

/-- The row at place k is gone. -/
theorem OB.erased {w w1 w2 : World} {B : Nat} {L : Lay} {s : OS} {ps : List PackV} {cs : List ChangeV} (h : OB w B L s ps cs) (k : Nat) (r : RowV) (hr : s.l[k]? = some r) (hs : r.stage ≠ 1)
    (hw : Wrote [L.sb] w w1) (hin : Inb w1 L.ib L.sb 100 (tog L.W r.id.toNat)) (v' : Value) (hw2 : Wrote (blk L.vl) w1 w2) (hv : w2.ownsRow 0 84 1 v' (s.l.length - 1) ((ptrs L.rb).eraseIdx k)) (hb : v'.ownBlock = L.vl.ownBlock) :
    OB (w2.setCell ⟨L.p, 6, none⟩ v') B { L with vl := v', rb := L.rb.eraseIdx k, W := tog L.W r.id.toNat } { s with l := s.l.eraseIdx k } ps cs ∧ Stp L.foot { L with vl := v', rb := L.rb.eraseIdx k, W := tog L.W r.id.toNat : Lay }.foot w (w2.setCell ⟨L.p, 6, none⟩ v') := by
  have hlt := (List.getElem?_eq_some_iff.1 hr).1
  have hok := h.ok
  have hid := hok.ids r (List.mem_of_getElem? hr) hs
  have hperm := ids_erase s.l k r hr hs
  have hrow1 := not_own h.rows hw (fun x hx hbk => by
    simp at hx
    subst hx
    exact block_not_row h.inb.set (by decide) h.rows (mem_blk.1 hbk).symm)
  have e1 : ∀ {T : TypeId} {x : Nat} {c : Array Value}, Blk w x c T → T ≠ 109 → Blk w1 x c T := fun hx ht => hx.wrote hw (by
    intro hm; simp at hm; exact (hx.ne h.inb.set ht) hm)
  have e2 : ∀ {T : TypeId} {x : Nat} {c : Array Value}, Blk w1 x c T → T ≠ 84 → Blk w2 x c T := fun hx ht => hx.wrote hw2 (fun hm => block_not_row hx ht hrow1 (mem_blk.1 hm).symm)
  have hbox2 := e2 (e1 h.box (by decide)) (by decide)
  have t3 : WT 77 w2 (w2.setCell ⟨L.p, 6, none⟩ v') := WT.set hbox2 6 v'
  have o12 : ∀ {base : Nat} {e : TypeId} {size : Nat} {v : Value} {n : Nat} {xs : List Value}, w.ownsRow base e size v n xs → e ≠ 109 → e ≠ 84 → w2.ownsRow base e size v n xs := fun hx h1 h2 => by
    have hx1 := not_own hx hw (fun x hm hbk => by
      simp at hm; subst hm
      exact block_not_row h.inb.set (Ne.symm h1) hx (mem_blk.1 hbk).symm)
    refine not_own hx1 hw2 (fun x hm hbk => ?_)
    obtain ⟨_, ⟨he, _⟩ | ⟨g, cap, cur, he, _, hg, _⟩⟩ := hrow1
    · rw [he] at hm; simp [blk, Value.ownBlock] at hm
    · rw [he] at hm
      have hxg : x = g := by simpa [blk, Value.ownBlock] using hm
      subst hxg
      exact block_not_row (show w1.heap[x]? = _ from hg) (Ne.symm h2) hx1 (mem_blk.1 hbk).symm
  have hsubf : ∀ x ∈ blk L.vl, x ∈ L.foot := fun x hx => by simp [Lay.foot, hx]
  have hstp : Wrote L.foot w (w2.setCell ⟨L.p, 6, none⟩ v') := ((hw.sub (by simp [Lay.foot])).trans (hw2.sub hsubf)).trans (Wrote.setCell w2 _ (by simp [Lay.foot]) _)
  have hsub : ∀ x ∈ ({ L with vl := v', rb := L.rb.eraseIdx k, W := tog L.W r.id.toNat } : Lay).foot, x ∈ L.foot := by
    intro x hx
    have h3 : x ∈ blk v' → x ∈ blk L.vl := fun hm => by rw [mem_blk] at hm ⊢; rw [← hb]; exact hm
    simp only [Lay.foot, List.mem_cons, List.mem_append] at hx ⊢
    rcases hx with hx | hx | hx | ((hx | hx) | hx) | hx
    · simp [hx]
    · simp [hx]
    · simp [hx]
    · simp [h3 hx]
    · simp [hx]
    · simp [hx]
    · simp [List.mem_of_mem_eraseIdx hx]
  refine ⟨⟨Nat.le_trans h.base hstp.size, hbox2.set 6 _, ⟨(e2 hin.box (by decide)).wt t3 (by decide), (e2 hin.set (by decide)).wt t3 (by decide)⟩, ?_, ?_, ?_, ?_, ?_, row_wt (o12 h.packs (by decide) (by decide)) t3 (by decide), row_wt (o12 h.chgs (by decide) (by decide)) t3 (by decide), h.tz.wrote hstp h.gg, fun hx => h.gg (hsub _ hx), ?_⟩, hstp, fun x hx => .inl (hsub x hx)⟩
  · have h1 := h.set.go (n := r.id.toNat) (by omega) (hperm.mem_iff.2 (by simp)) hok.nodup
    refine h1.perm ?_
    have h2 := hperm.erase r.id.toNat
    simpa using h2
  · have := row_wt hv t3 (by decide)
    simpa [List.length_eraseIdx, hlt, ptrs, erase_map] using this
  · have := h.len
    simp [List.length_eraseIdx, hlt, this]
  · intro i b r' h1 h2
    dsimp only at h1 h2
    rw [eraseIdx_get] at h1 h2
    have hc : ∃ j : Nat, L.rb[j]? = some b ∧ s.l[j]? = some r' := by
      by_cases hi : i < k
      · rw [if_pos hi] at h1 h2; exact ⟨i, h1, h2⟩
      · rw [if_neg hi] at h1 h2; exact ⟨i + 1, h1, h2⟩
    obtain ⟨j, hj1, hj2⟩ := hc
    exact (e2 (e1 (h.cells j b r' hj1 hj2) (by decide)) (by decide)).wt t3 (by decide)
  · exact h.nodup.sublist (List.eraseIdx_sublist ..)
  · have hl : (s.l.eraseIdx k).length = s.l.length - 1 := by simp [List.length_eraseIdx, hlt]
    have hpl := hperm.length_eq
    simp only [List.length_cons] at hpl
    refine ⟨hok.win, ⟨hok.room.1, by have := hok.room.2; show ((s.l.eraseIdx k).length : Int) ≤ s.room; omega⟩, hok.seq, hok.id, hok.cl, fun x hx => hok.ids x (List.mem_of_mem_eraseIdx hx), (List.nodup_cons.1 (hperm.nodup_iff.1 hok.nodup)).2, by have := hok.under; show ((idsOf (s.l.eraseIdx k)).length : Int) ≤ s.window; omega⟩
end Go.Proofs.YtodbdojjllabmaaGreatDoor
