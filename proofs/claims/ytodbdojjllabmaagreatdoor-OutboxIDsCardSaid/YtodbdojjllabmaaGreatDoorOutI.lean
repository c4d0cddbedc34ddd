/- Contracts of package outbox (part 9): what sending does, plainly; a row that is sent. -/
import Derived.Test.YtodbdojjllabmaaGreatDoorOutH
namespace Go.Proofs.YtodbdojjllabmaaGreatDoor
open Go.RowKit Go.Shelf

/-- A row with an ID, sent. -/
def RowV.sent (r : RowV) (y : Int) : RowV := { r with id := y, stage := 2 }
structure SS where
  s : OS
  ps : List PackV
  cs : List ChangeV
/-- The row at a place is sent, if there is room. -/
def SS.send (x : SS) (i : Nat) : SS :=
  if x.s.window ≤ (idsOf x.s.l).length then x else
  match x.s.l[i]? with
  | none => x
  | some r =>
    let y := firstI (idsOf x.s.l).length x.s.id (idsOf x.s.l)
    ⟨{ x.s with l := x.s.l.set i (r.sent y), id := y % 65535 + 1 }, x.ps ++ [(r.sent y).pub false], x.cs ++ [⟨false, r.sent y⟩]⟩
def SS.sends (x : SS) (q : List Nat) : SS := q.foldl SS.send x
theorem SS.sends_snoc (x : SS) (q : List Nat) (i : Nat) : x.sends (q ++ [i]) = (x.sends q).send i := by simp [SS.sends]
theorem SS.send_full (x : SS) (i : Nat) (h : x.s.window ≤ (idsOf x.s.l).length) : x.send i = x := by unfold SS.send; rw [if_pos h]
theorem SS.sends_full (x : SS) (q : List Nat) (h : x.s.window ≤ (idsOf x.s.l).length) : x.sends q = x := by
  induction q with
  | nil => rfl
  | cons i q ih =>
    show (x.send i).sends q = x
    rw [SS.send_full x i h]; exact ih
theorem SS.send_other (x : SS) (i j : Nat) (h : j ≠ i) : (x.send i).s.l[j]? = x.s.l[j]? := by
  unfold SS.send
  split
  · rfl
  · split
    · rfl
    · simp [List.getElem?_set_ne (Ne.symm h)]
theorem SS.sends_other (x : SS) (q : List Nat) (j : Nat) (h : ∀ i ∈ q, j ≠ i) : (x.sends q).s.l[j]? = x.s.l[j]? := by
  induction q generalizing x with
  | nil => rfl
  | cons i q ih =>
    show ((x.send i).sends q).s.l[j]? = _
    rw [ih (x.send i) (fun k hk => h k (by simp [hk])), SS.send_other x i j (h i (by simp))]
structure SS.Alike (x y : SS) : Prop where
  len : y.s.l.length = x.s.l.length
  client : y.s.client = x.s.client
  window : y.s.window = x.s.window
  room : y.s.room = x.s.room
  seq : y.s.seq = x.s.seq
  packs : y.ps.length ≤ x.ps.length + 1
  chgs : y.cs.length ≤ x.cs.length + 1
theorem SS.send_alike (x : SS) (i : Nat) : x.Alike (x.send i) := by
  unfold SS.send
  split
  · exact ⟨rfl, rfl, rfl, rfl, rfl, by omega, by omega⟩
  · split
    · exact ⟨rfl, rfl, rfl, rfl, rfl, by omega, by omega⟩
    · exact ⟨by simp, rfl, rfl, rfl, rfl, by simp, by simp⟩

theorem ids_set (l : List RowV) (i : Nat) (r r' : RowV) (h : l[i]? = some r) (h1 : r.stage = 1) (h2 : r'.stage ≠ 1) : (r'.id.toNat :: idsOf l).Perm (idsOf (l.set i r')) := by
  induction l generalizing i with
  | nil => simp at h
  | cons x l ih =>
    cases i with
    | zero =>
      simp at h
      subst h
      simp [idsOf, h1, h2]
    | succ i =>
      simp at h
      have := ih i h
      by_cases hx : x.stage = 1
      · simpa [idsOf, hx] using this
      · have e1 : idsOf (x :: l) = x.id.toNat :: idsOf l := by simp [idsOf, hx]
        have e2 : idsOf ((x :: l).set (i + 1) r') = x.id.toNat :: idsOf (l.set i r') := by simp [idsOf, hx]
        rw [e1, e2]
        exact (List.Perm.swap _ _ _).trans (this.cons _)

/-- The row at place i has been sent, its ID has come. -/
theorem OB.sent {w w' : World} {B : Nat} {L : Lay} {s : OS} {ps : List PackV} {cs : List ChangeV} (h : OB w B L s ps cs) (i b : Nat) (r : RowV) (hb : L.rb[i]? = some b) (hr : s.l[i]? = some r) (hs : r.stage = 1) (y : Int) (hy : 1 ≤ y ∧ y ≤ 65535)
    (hnot : y.toNat ∉ idsOf s.l) (hund : ((idsOf s.l).length : Int) < s.window) (hw : Wrote [b, L.sb] w w') (hbl : Blk w' b (r.sent y).vals 30) (hin : Inb w' L.ib L.sb 100 (tog L.W y.toNat)) :
    OB w' B { L with W := tog L.W y.toNat } { s with l := s.l.set i (r.sent y) } ps cs := by
  have hrow := h.cells i b r hb hr
  have hperm := ids_set s.l i r (r.sent y) hr hs (by simp [RowV.sent])
  have hn : ∀ {T : TypeId} {x : Nat} {c : Array Value}, Blk w x c T → T ≠ 30 → T ≠ 109 → x ∉ [b, L.sb] := fun hx h1 h2 hm => by
    simp at hm
    rcases hm with hm | hm
    · exact (hx.ne hrow h1) hm
    · exact (hx.ne h.inb.set h2) hm
  have hrw : ∀ {base : Nat} {e : TypeId} {size : Nat} {v : Value} {n : Nat} {xs : List Value}, w.ownsRow base e size v n xs → e ≠ 30 → e ≠ 109 → w'.ownsRow base e size v n xs := fun hx h1 h2 => not_own hx hw fun x hm hbk => by
    simp at hm
    rcases hm with rfl | rfl
    · exact block_not_row hrow (Ne.symm h1) hx (mem_blk.1 hbk).symm
    · exact block_not_row h.inb.set (Ne.symm h2) hx (mem_blk.1 hbk).symm
  have hbf : b ∈ L.foot := by simp [Lay.foot, List.mem_of_getElem? hb]
  refine ⟨Nat.le_trans h.base hw.size, h.box.wrote hw (hn h.box (by decide) (by decide)), hin, (h.set.come (by omega) hnot).perm hperm, ?_, ?_, ?_, h.nodup, hrw h.packs (by decide) (by decide), hrw h.chgs (by decide) (by decide), h.tz.wrote hw ?_, h.gg, ?_⟩
  · have := hrw h.rows (by decide) (by decide)
    simpa using this
  · simpa using h.len
  · intro j b' r' h1 h2
    dsimp only at h1 h2
    by_cases e : j = i
    · subst e
      rw [hb] at h1
      cases h1
      have hlt := (List.getElem?_eq_some_iff.1 hr).1
      rw [List.getElem?_set_self hlt] at h2
      cases h2
      exact hbl
    · rw [List.getElem?_set_ne (Ne.symm e)] at h2
      have hc := h.cells j b' r' h1 h2
      refine hc.wrote hw fun hm => ?_
      simp at hm
      rcases hm with rfl | hm
      · have hlt1 := (List.getElem?_eq_some_iff.1 h1).1
        exact e ((List.getElem?_inj hlt1 h.nodup).1 (h1.trans hb.symm))
      · exact (hc.ne h.inb.set (by decide)) hm
  · intro hm
    simp at hm
    rcases hm with hm | hm
    · exact h.gg (hm ▸ hbf)
    · exact h.gg (by simp [Lay.foot, hm])
  · have hok := h.ok
    refine ⟨hok.win, by simpa using hok.room, hok.seq, hok.id, hok.cl, ?_, hperm.nodup_iff.1 (List.nodup_cons.2 ⟨hnot, hok.nodup⟩), ?_⟩
    · intro x hx hst
      rcases List.mem_or_eq_of_mem_set hx with hx | hx
      · exact hok.ids x hx hst
      · subst hx; exact hy
    · have := hperm.length_eq
      simp only [List.length_cons] at this
      show ((idsOf (s.l.set i (r.sent y))).length : Int) ≤ s.window
      omega
end Go.Proofs.YtodbdojjllabmaaGreatDoor
