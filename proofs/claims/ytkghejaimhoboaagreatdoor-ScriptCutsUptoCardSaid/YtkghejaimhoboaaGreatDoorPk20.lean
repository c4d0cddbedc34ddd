/- Parts of the proof of ScriptCuts: contracts of functions that it reaches, and plain lemmas. No condition of their own. -/
import Derived.Test.YtkghejaimhoboaaGreatDoorPk12
import Derived.Test.YtkghejaimhoboaaGreatDoorPk19
import Derived.Test.YtkghejaimhoboaaGreatDoorPk13
import Derived.Test.YtkghejaimhoboaaGreatDoorPk16
set_option linter.unusedSimpArgs false
set_option linter.unusedVariables false
set_option maxRecDepth 100000
set_option maxHeartbeats 8000000
namespace Go.Proofs.YtkghejaimhoboaaGreatDoor
open Go.RowKit Go.Shelf
section
structure Rg (l : List RowV) (q : Int) : Prop where
 sorted : (l.map RowV.seq).Pairwise (· < ·)
 lt : ∀ r ∈ l, r.seq < q
 good : ∀ r ∈ l, (r.stage = 1 /\ r.id = 0) \/ r.stage = 2 \/ r.stage = 3
theorem Rg.nil (q : Int) : Rg [] q := ⟨List.Pairwise.nil, by simp, by simp⟩
theorem Rg.push {l : List RowV} {q : Int} (h : Rg l q) (r : RowV) (hs : r.seq = q) (hg : r.stage = 1 /\ r.id = 0) : Rg (l ++ [r]) (q + 1) := by
 refine ⟨?_, fun x hx => ?_, fun x hx => ?_⟩
 ·rw [List.map_append, List.pairwise_append]
  refine ⟨h.sorted, by simp, fun a ha b hb => ?_⟩
  simp only [List.mem_map] at ha
  obtain ⟨x, hx, rfl⟩ := ha
  simp at hb
  subst hb;rw [hs]
  exact h.lt x hx
 ·rcases List.mem_append.1 hx with hx | hx
  ·have := h.lt x hx; omega
  ·simp at hx; subst hx; omega
 ·rcases List.mem_append.1 hx with hx | hx
  ·exact h.good x hx
  ·simp at hx; subst hx; exact .inl hg
theorem Rg.set {l : List RowV} {q : Int} (h : Rg l q) {i : Nat} {r r' : RowV} (hr : l[i]? = some r) (hs : r'.seq = r.seq) (hg : r'.stage = 2 \/ r'.stage = 3) : Rg (l.set i r') q := by
 have hm := List.mem_of_getElem? hr
 refine ⟨?_, fun x hx => ?_, fun x hx => ?_⟩
 ·have : (l.set i r').map RowV.seq = l.map RowV.seq := by
   rw [List.map_set, hs]
   apply List.ext_getElem?
   intro j
   by_cases hj : i = j
   ·subst hj
    rw [List.getElem?_set_self' ]
    simp [hr]
   ·rw [List.getElem?_set_ne hj]
  rw [this]; exact h.sorted
 ·rcases List.mem_or_eq_of_mem_set hx with hx | rfl
  ·exact h.lt x hx
  ·rw [hs]; exact h.lt r hm
 ·rcases List.mem_or_eq_of_mem_set hx with hx | rfl
  ·exact h.good x hx
  ·exact .inr hg
theorem Rg.erase {l : List RowV} {q : Int} (h : Rg l q) (i : Nat) : Rg (l.eraseIdx i) q := by
 have hsub := List.eraseIdx_sublist l i
 exact ⟨(h.sorted.sublist (hsub.map _)), fun r hr => h.lt r (hsub.subset hr), fun r hr => h.good r (hsub.subset hr)⟩
structure Wn (W R : Int) (s : OS) : Prop where
 rg : Rg s.l s.seq
 win : s.window = W
 room : s.room = R
theorem Wn.send {W R : Int} {x : SS} (h : Wn W R x.s) (i : Nat) : Wn W R (x.send i).s := by
 unfold SS.send
 split
 ·exact h
 ·split
  ·exact h
  ·rename_i r hr
   exact ⟨h.rg.set hr rfl (.inl rfl), h.win, h.room⟩
theorem Wn.sends {W R : Int} {x : SS} (h : Wn W R x.s) (q : List Nat) : Wn W R (x.sends q).s := by
 induction q generalizing x with
 | nil => exact h
 | cons i q ih => exact ih (h.send i)
theorem Wn.all {W R : Int} {x : SS} (h : Wn W R x.s) : Wn W R x.all.s := h.sends _
theorem Wn.gone {W R : Int} {x : SS} (h : Wn W R x.s) (n st q : Int) : Wn W R (x.goneAt n st q).s := by
 unfold SS.goneAt
 split
 ·exact h
 ·unfold SS.goneIf
  split
  ·exact h
  ·split
   ·unfold SS.gone
    split
    ·exact h
    ·exact ⟨h.rg.erase _, h.win, h.room⟩
   ·exact h
def Done1 (s : OS) : Prop := s.window <= (idsOf s.l).length \/ ∀ r ∈ s.l, r.stage ≠ 1
theorem Done1.all {s : OS} (h : Done1 s) (ps : List PackV) (cs : List ChangeV) : (SS.mk s ps cs).all = ⟨s, ps, cs⟩ := by
 rcases h with h | h
 ·exact SS.sends_full _ _ h
 ·have : waitQ (stOf s.l) s.l.length = [] := by
   unfold waitQ
   rw [List.filter_eq_nil_iff]
   intro i hi
   simp only [List.mem_range] at hi
   unfold stOf
   rw [List.getElem?_eq_getElem hi]
   simpa using h _ (List.getElem_mem hi)
  unfold SS.all
  show (SS.mk s ps cs).sends (waitQ (stOf s.l) s.l.length) = _
  rw [this]
  rfl
end
section
theorem idxOf_eraseP {α : Type} (p : α -> Bool) (l : List α) (h : 0 <= idxOf p l) : l.eraseIdx (idxOf p l).toNat = l.eraseP p := by
 induction l with
 | nil => rfl
 | cons x l ih =>
  unfold idxOf at h ⊢
  by_cases hx : p x = true
  ·rw [if_pos hx]
   rw [List.eraseP_cons_of_pos hx]
   rfl
  ·rw [if_neg hx] at h ⊢
   dsimp only at h ⊢
   by_cases hr : idxOf p l < 0
   ·rw [if_pos hr] at h; omega
   ·rw [if_neg hr] at h ⊢
    rw [List.eraseP_cons_of_neg hx, <- ih (by omega), show (idxOf p l + 1).toNat = (idxOf p l).toNat + 1 by omega]
    rfl
theorem idxOf_pos {α : Type} (p : α -> Bool) (l : List α) (x : α) (h : x ∈ l) (hx : p x = true) : 0 <= idxOf p l := by
 induction l with
 | nil => cases h
 | cons y l ih =>
  unfold idxOf
  by_cases hy : p y = true
  ·rw [if_pos hy]; omega
  ·rw [if_neg hy]
   dsimp only
   rcases List.mem_cons.1 h with rfl | h
   ·exact absurd hx hy
   ·have := ih h
    rw [if_neg (by omega)]; omega
theorem applyR_there {R M : List RowV} {y : RowV} {c : ChangeV} (hp : R.Perm (y :: M)) (hy : isR y c.row = true) (hM : ∀ z ∈ M, isR z c.row = false) :
  ∃ R', applyR R c = some R' /\ R'.Perm (M ++ if c.drop = true then [] else [c.row]) := by
 have h0 := idxOf_pos (fun x => isR x c.row) R y (hp.mem_iff.2 (List.mem_cons_self ..)) hy
 refine ⟨_, by unfold applyR; dsimp only; rw [if_neg (by omega), if_pos h0], List.Perm.append_right _ ?_⟩
 rw [idxOf_eraseP _ _ h0]
 have := List.Perm.eraseP (fun x => isR x c.row) (l₁ := y :: M) (l₂ := R) (by
  refine List.Pairwise.cons (fun a ha _ h2 => ?_) (List.pairwise_of_forall_mem_list fun a ha b _ h1 _ => ?_)
  ·rw [hM a ha] at h2; cases h2
  ·rw [hM a ha] at h1; cases h1) hp.symm
 rw [List.eraseP_cons_of_pos (p := fun x => isR x c.row) hy] at this
 exact this.symm
theorem isR_3 (a b : RowV) (ha : a.kind = 3) (hb : b.kind = 3) : isR a b = (decide (a.client = b.client) && decide (a.seq = b.seq)) := by simp [isR, ha, hb]
theorem isR_ne (a b : RowV) (h : a.kind ≠ b.kind) : isR a b = false := by simp [isR, h]
theorem isR_1 (a b : RowV) (ha : a.kind = 1) (hb : b.kind = 1) : isR a b = decide (a.client = b.client) := by simp [isR, ha, hb]
theorem perm_erase {l : List RowV} {i : Nat} {r : RowV} (h : l[i]? = some r) : l.Perm (r :: l.eraseIdx i) := by
 induction l generalizing i with
 | nil => simp at h
 | cons x l ih =>
  cases i with
  | zero => simp at h; subst h; exact List.Perm.refl _
  | succ i => simp at h; exact ((ih h).cons x).trans (List.Perm.swap _ _ _)
theorem perm_set {l : List RowV} {i : Nat} {r : RowV} (r' : RowV) (h : l[i]? = some r) : (l.set i r').Perm (r' :: l.eraseIdx i) := by
 have hlt := (List.getElem?_eq_some_iff.1 h).1
 have h1 : (l.set i r')[i]? = some r' := by rw [List.getElem?_set_self hlt]
 have := perm_erase h1
 rwa [List.eraseIdx_set_eq] at this
theorem seq_other {l : List RowV} (hn : (l.map RowV.seq).Nodup) {i : Nat} {r : RowV} (h : l[i]? = some r) : ∀ z ∈ l.eraseIdx i, z.seq ≠ r.seq := by
 have := ((perm_erase h).map RowV.seq).nodup_iff.1 hn
 rw [List.map_cons, List.nodup_cons] at this
 intro z hz he
 exact this.1 (he ▸ List.mem_map_of_mem hz)
theorem erase_mem {l : List RowV} {i : Nat} {z : RowV} (h : z ∈ l.eraseIdx i) : z ∈ l := (List.eraseIdx_sublist _ _).subset h
theorem ap_at {R l : List RowV} {se : RowV} (hp : R.Perm (se :: l)) (hs : se.kind = 1) (hk : ∀ x ∈ l, x.kind = 3) (hn : (l.map RowV.seq).Nodup) {i : Nat} {r : RowV} (hi : l[i]? = some r) (c : ChangeV) (h3 : c.row.kind = 3) (hc : c.row.client = r.client) (hq : c.row.seq = r.seq) :
  ∃ R', applyR R c = some R' /\ R'.Perm (se :: (if c.drop = true then l.eraseIdx i else l.set i c.row)) := by
 have hr := hk r (List.mem_of_getElem? hi)
 obtain ⟨R', h1, h2⟩ := applyR_there (R := R) (y := r) (M := se :: l.eraseIdx i) (c := c) (hp.trans (((perm_erase hi).cons se).trans (List.Perm.swap _ _ _))) (by rw [isR_3 _ _ hr h3]; simp [hc, hq]) (fun z hz => by
  rcases List.mem_cons.1 hz with rfl | hz
  ·exact isR_ne _ _ (by omega)
  ·rw [isR_3 _ _ (hk z (erase_mem hz)) h3, hq]
   simp [seq_other hn hi z hz])
 refine ⟨R', h1, h2.trans ?_⟩
 cases c.drop with
 | true => simp
 | false =>
  show (se :: l.eraseIdx i ++ [c.row]).Perm (se :: l.set i c.row)
  exact (List.Perm.cons se ((List.perm_append_singleton _ _).trans (perm_set _ hi).symm))
theorem ap_sess {R l : List RowV} {se : RowV} (hp : R.Perm (se :: l)) (hs : se.kind = 1) (hk : ∀ x ∈ l, x.kind = 3) (r : RowV) (h1 : r.kind = 1) (hc : r.client = se.client) :
  ∃ R', applyR R ⟨false, r⟩ = some R' /\ R'.Perm (r :: l) := by
 obtain ⟨R', h2, h3⟩ := applyR_there (R := R) (y := se) (M := l) (c := ⟨false, r⟩) hp (by rw [isR_1 _ _ hs h1]; simp [hc]) (fun z hz => isR_ne _ _ (by have := hk z hz; show z.kind ≠ r.kind; omega))
 exact ⟨R', h2, h3.trans (List.perm_append_singleton _ _)⟩
def GRow (c : List UInt8) (r : RowV) : Prop := r.kind = 3 /\ putMay r = true /\ stageOK r /\ r.client = c /\ r.topic.length <= 1000000
structure PI (W R : Int) (c : List UInt8) (R0 : List RowV) (q0 i0 : Int) (x : SS) : Prop where
 wn : Wn W R x.s
 cl : x.s.client = c
 id : 1 <= x.s.id /\ x.s.id <= 65535
 row : ∀ r ∈ x.s.l, GRow c r
 ap : ∃ R', appliesR R0 x.cs = some R' /\ R'.Perm (sessV c q0 i0 :: x.s.l)
 chg : ∀ ch ∈ x.cs, GRow c ch.row
theorem appliesR_snoc {R0 R1 R2 : List RowV} {cs : List ChangeV} {c : ChangeV} (h1 : appliesR R0 cs = some R1) (h2 : applyR R1 c = some R2) : appliesR R0 (cs ++ [c]) = some R2 := by
 rw [appliesR_append, h1]
 show (applyR R1 c).bind _ = _
 rw [h2]
 rfl
theorem Rg.nodup {l : List RowV} {q : Int} (h : Rg l q) : (l.map RowV.seq).Nodup := h.sorted.imp fun h => by omega
section
variable {W R : Int} {c : List UInt8} {R0 : List RowV} {q0 i0 : Int} {x : SS}
theorem PI.kind (h : PI W R c R0 q0 i0 x) : ∀ r ∈ x.s.l, r.kind = 3 := fun r hr => (h.row r hr).1
theorem PI.step (h : PI W R c R0 q0 i0 x) {i : Nat} {r : RowV} (hi : x.s.l[i]? = some r) (ch : ChangeV) (hg : GRow c ch.row) (hq : ch.row.seq = r.seq) :
  ∃ R', appliesR R0 (x.cs ++ [ch]) = some R' /\ R'.Perm (sessV c q0 i0 :: (if ch.drop = true then x.s.l.eraseIdx i else x.s.l.set i ch.row)) := by
 obtain ⟨R', h1, h2⟩ := h.ap
 obtain ⟨R2, h3, h4⟩ := ap_at h2 rfl h.kind h.wn.rg.nodup hi ch hg.1 (by rw [hg.2.2.2.1, (h.row r (List.mem_of_getElem? hi)).2.2.2.1]) hq
 exact ⟨R2, appliesR_snoc h1 h3, h4⟩
theorem chg_snoc {cs : List ChangeV} (h : ∀ ch ∈ cs, GRow c ch.row) (d : ChangeV) (hd : GRow c d.row) : ∀ ch ∈ cs ++ [d], GRow c ch.row := fun ch hc => by
 rcases List.mem_append.1 hc with hc | hc
 ·exact h ch hc
 ·simp at hc; subst hc; exact hd
theorem PI.set (h : PI W R c R0 q0 i0 x) {i : Nat} {r : RowV} (hi : x.s.l[i]? = some r) (r' : RowV) (hg : GRow c r') (hq : r'.seq = r.seq) (id' : Int) (hid : 1 <= id' /\ id' <= 65535) (ps : List PackV) (hw : Wn W R { x.s with l := x.s.l.set i r', id := id' }) :
  PI W R c R0 q0 i0 ⟨{ x.s with l := x.s.l.set i r', id := id' }, ps, x.cs ++ [⟨false, r'⟩]⟩ :=
 ⟨hw, h.cl, hid, fun z hz => (List.mem_or_eq_of_mem_set hz).elim (h.row z) (fun e => e ▸ hg), by simpa using h.step hi ⟨false, r'⟩ hg hq, chg_snoc h.chg _ hg⟩
theorem PI.send (h : PI W R c R0 q0 i0 x) (i : Nat) : PI W R c R0 q0 i0 (x.send i) := by
 have hw := h.wn.send i
 unfold SS.send at hw ⊢
 split
 ·exact h
 ·rename_i hn
  rw [if_neg hn] at hw
  split
  ·exact h
  ·rename_i r hr
   have hy := firstI_range (idsOf x.s.l).length x.s.id (idsOf x.s.l) h.id
   obtain ⟨g1, g2, g3, g4, g5⟩ := h.row r (List.mem_of_getElem? hr)
   rw [hr] at hw
   exact h.set hr _ (show GRow c (r.sent (firstI (idsOf x.s.l).length x.s.id (idsOf x.s.l))) from ⟨g1, g2, .inr ⟨hy, .inl rfl⟩, g4, g5⟩) rfl _ (by omega) _ hw
theorem PI.sends (h : PI W R c R0 q0 i0 x) (q : List Nat) : PI W R c R0 q0 i0 (x.sends q) := by
 induction q generalizing x with
 | nil => exact h
 | cons i q ih => exact ih (h.send i)
theorem PI.all (h : PI W R c R0 q0 i0 x) : PI W R c R0 q0 i0 x.all := h.sends _
theorem PI.gone (h : PI W R c R0 q0 i0 x) (n st q : Int) : PI W R c R0 q0 i0 (x.goneAt n st q) := by
 have hw := h.wn.gone n st q
 unfold SS.goneAt at hw ⊢
 split
 ·exact h
 ·rename_i hn
  rw [if_neg hn] at hw
  unfold SS.goneIf at hw ⊢
  split
  ·exact h
  ·rename_i r hr
   rw [hr] at hw
   dsimp only at hw
   split
   ·rename_i hs
    rw [if_pos hs] at hw
    unfold SS.gone at hw ⊢
    rw [hr] at hw ⊢
    have hg := h.row r (List.mem_of_getElem? hr)
    exact ⟨hw, h.cl, h.id, fun z hz => h.row z (erase_mem hz), by simpa using h.step hr ⟨true, r⟩ hg rfl, chg_snoc h.chg _ hg⟩
   ·exact h
end
def CRow (c : List UInt8) (r : RowV) : Prop := GRow c r \/ ∃ q i, r = sessV c q i /\ sessMay (sessV c q i) = true /\ 1 <= i /\ i <= 65535
structure PO (W R : Int) (c : List UInt8) (s : OS) : Prop where
 wn : Wn W R s
 cl : s.client = c
 id : 1 <= s.id /\ s.id <= 65535
 row : ∀ r ∈ s.l, GRow c r
 may : clientR c = true
 pos : 0 <= s.seq
structure PD (W R : Int) (c : List UInt8) (R0 : List RowV) (X : SS) : Prop where
 po : PO W R c X.s
 ap : ∃ R', appliesR R0 X.cs = some R' /\ R'.Perm (X.s.session :: X.s.l)
 chg : ∀ ch ∈ X.cs, CRow c ch.row
theorem sess_may {c : List UInt8} (hm : clientR c = true) {q i : Int} (hq : 0 <= q /\ q <= 4611686018427387904) (hi : 1 <= i /\ i <= 65535) : sessMay (sessV c q i) = true := by
 unfold sessMay sessV
 simp only [hm, Bool.true_and, Bool.and_eq_true, decide_eq_true_eq]
 omega
theorem OS.session_eq {s : OS} {c : List UInt8} (h : s.client = c) : s.session = sessV c s.seq s.id := by rw [<- h]; rfl
section
variable {W R : Int} {c : List UInt8} {R0 : List RowV} {s : OS}
theorem PI.fin {q0 i0 : Int} {x : SS} (h : PI W R c R0 q0 i0 x) (hm : clientR c = true) (hs : 0 <= x.s.seq /\ x.s.seq <= 4611686018427387904) : PD W R c R0 (x.fin q0 i0) := by
 obtain ⟨R', h1, h2⟩ := h.ap
 refine ⟨⟨h.wn, h.cl, h.id, h.row, hm, hs.1⟩, ?_, ?_⟩
 ·unfold SS.fin
  dsimp only
  rw [OS.session_eq h.cl]
  split
  ·rename_i he
   rw [List.append_nil, he.1, he.2]
   exact ⟨R', h1, h2⟩
  ·obtain ⟨R2, h3, h4⟩ := ap_sess h2 rfl h.kind (sessV c x.s.seq x.s.id) rfl rfl
   exact ⟨R2, appliesR_snoc h1 h3, h4⟩
 ·unfold SS.fin
  dsimp only
  rw [OS.session_eq h.cl]
  intro ch hc
  rcases List.mem_append.1 hc with hc | hc
  ·exact .inl (h.chg ch hc)
  ·split at hc
   ·cases hc
   ·simp at hc
    subst hc;exact .inr ⟨_, _, rfl, sess_may hm hs h.id, h.id⟩
end
end
section
theorem CRow.kind {c : List UInt8} {r : RowV} (h : CRow c r) : kindOK r := by
 rcases h with h | ⟨q, i, rfl, _⟩
 ·exact .inr (.inr (.inl h.1))
 ·exact .inl rfl
end
end Go.Proofs.YtkghejaimhoboaaGreatDoor
