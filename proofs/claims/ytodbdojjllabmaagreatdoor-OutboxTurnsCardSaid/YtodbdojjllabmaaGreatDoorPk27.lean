/- OutboxTurns, plainly: what each call does to an outbox of so many messages; what waits; what is said. -/
import Derived.Test.YtodbdojjllabmaaGreatDoorPk24
namespace Go.Proofs.YtodbdojjllabmaaGreatDoor
open Go.RowKit Go.Shelf

def tQ (qs : List Bool) (j : Nat) : Int := if qs[j]?.getD false then 2 else 1
def tRow (qs : List Bool) (j : Nat) : RowV := ⟨3, [99], j, 0, [97], [UInt8.ofNat (65 + j)], tQ qs j, false, 1⟩
def tUnd (qs : List Bool) (e : Nat × Bool) : RowV := ⟨3, [99], (e.1 : Nat), (e.1 : Int) + 1, [97], [UInt8.ofNat (65 + e.1)], tQ qs e.1, false, if e.2 then 3 else 2⟩
def tL (qs : List Bool) (U : List (Nat × Bool)) (m : Nat) : List RowV := U.map (tUnd qs) ++ (List.range' m (qs.length - m)).map (tRow qs)
def tOS (qs : List Bool) (W : Int) (U : List (Nat × Bool)) (m : Nat) : OS := ⟨[99], W, 100, qs.length, (m : Int) + 1, tL qs U m⟩
def news (m k : Nat) : List (Nat × Bool) := (List.range' m k).map fun j => (j, false)
def tPub (qs : List Bool) (e : Nat × Bool) : PackV := (tUnd qs e).pub false

structure Turn (qs : List Bool) (W : Int) (U : List (Nat × Bool)) (m : Nat) : Prop where
  m_le : m ≤ qs.length
  nd : (U.map Prod.fst).Nodup
  lt : ∀ e ∈ U, e.1 < m
  two : ∀ e ∈ U, e.2 = true → tQ qs e.1 = 2
  win : (U.length : Int) ≤ W

theorem tL_ids (qs : List Bool) (U : List (Nat × Bool)) (m : Nat) : idsOf (tL qs U m) = U.map fun e => e.1 + 1 := by
  unfold idsOf tL
  rw [List.filter_append, List.map_append]
  have h1 : (U.map (tUnd qs)).filter (fun r => decide (r.stage ≠ 1)) = U.map (tUnd qs) := by
    rw [List.filter_eq_self]
    intro r hr
    simp only [List.mem_map] at hr
    obtain ⟨e, _, rfl⟩ := hr
    unfold tUnd
    dsimp only
    split <;> simp
  have h2 : ((List.range' m (qs.length - m)).map (tRow qs)).filter (fun r => decide (r.stage ≠ 1)) = [] := by
    rw [List.filter_eq_nil_iff]
    intro r hr
    simp only [List.mem_map] at hr
    obtain ⟨e, _, rfl⟩ := hr
    simp [tRow]
  rw [h1, h2]
  simp only [List.map_map, List.map_nil, List.append_nil]
  apply List.map_congr_left
  intro e _
  show ((e.1 : Int) + 1).toNat = e.1 + 1
  omega
theorem tL_len (qs : List Bool) (U : List (Nat × Bool)) (m : Nat) : (tL qs U m).length = U.length + (qs.length - m) := by simp [tL]

theorem turn_one {qs : List Bool} {W : Int} {U : List (Nat × Bool)} {m : Nat} (h : Turn qs W U m) (h60 : qs.length ≤ 60) (hm : m < qs.length) (hw : (U.length : Int) < W) (ps : List PackV) (cs : List ChangeV) :
    (SS.mk (tOS qs W U m) ps cs).send U.length = ⟨tOS qs W (U ++ [(m, false)]) (m + 1), ps ++ [tPub qs (m, false)], cs ++ [⟨false, tUnd qs (m, false)⟩]⟩ ∧ Turn qs W (U ++ [(m, false)]) (m + 1) := by
  have hr : List.range' m (qs.length - m) = m :: List.range' (m + 1) (qs.length - (m + 1)) := by
    rw [show qs.length - m = (qs.length - (m + 1)) + 1 by omega, List.range'_succ]
  constructor
  · unfold SS.send
    have hids : idsOf (SS.mk (tOS qs W U m) ps cs).s.l = U.map fun e => e.1 + 1 := tL_ids qs U m
    have hnot : ((m : Int) + 1).toNat ∉ idsOf (SS.mk (tOS qs W U m) ps cs).s.l := by
      rw [hids]
      simp only [List.mem_map]
      rintro ⟨e, he, h1⟩
      have := h.lt e he
      omega
    have hg : (SS.mk (tOS qs W U m) ps cs).s.l[U.length]? = some (tRow qs m) := by
      show (tL qs U m)[U.length]? = _
      unfold tL
      rw [List.getElem?_append_right (by simp), hr]
      simp
    have hf : firstI (idsOf (SS.mk (tOS qs W U m) ps cs).s.l).length (SS.mk (tOS qs W U m) ps cs).s.id (idsOf (SS.mk (tOS qs W U m) ps cs).s.l) = (m : Int) + 1 := by
      have fs : ∀ (k : Nat) (z : Int) (ids : List Nat), z.toNat ∉ ids → firstI k z ids = z := by
        intro k z ids h
        cases k with
        | zero => rfl
        | succ k => unfold firstI; rw [if_neg h]
      exact fs _ _ _ hnot
    have hsent : (tRow qs m).sent ((m : Int) + 1) = tUnd qs (m, false) := rfl
    rw [if_neg (by rw [hids]; show ¬ (W ≤ ((U.map _).length : Int)); rw [List.length_map]; omega), hg]
    dsimp only
    rw [hf, hsent]
    have hset : (SS.mk (tOS qs W U m) ps cs).s.l.set U.length (tUnd qs (m, false)) = tL qs (U ++ [(m, false)]) (m + 1) := by
      show (tL qs U m).set U.length _ = _
      unfold tL
      rw [hr, List.set_append, if_neg (by simp)]
      simp
    rw [hset]
    have hid1 : ((m : Int) + 1) % 65535 + 1 = ((m + 1 : Nat) : Int) + 1 := by omega
    rw [hid1]
    rfl
  · refine ⟨by omega, ?_, ?_, ?_, ?_⟩
    · rw [List.map_append, List.nodup_append]
      refine ⟨h.nd, by simp, fun a ha b hb => ?_⟩
      simp only [List.map_cons, List.map_nil, List.mem_singleton] at hb
      simp only [List.mem_map] at ha
      obtain ⟨e, he, rfl⟩ := ha
      have := h.lt e he
      omega
    · intro e he
      rcases List.mem_append.1 he with he | he
      · have := h.lt e he; omega
      · simp at he; subst he; simp
    · intro e he h2
      rcases List.mem_append.1 he with he | he
      · exact h.two e he h2
      · simp at he; subst he; simp at h2
    · simp; omega

theorem news_succ (m k : Nat) : news m (k + 1) = (m, false) :: news (m + 1) k := by simp [news, List.range'_succ]
theorem news_len (m k : Nat) : (news m k).length = k := by simp [news]
theorem news_add (m j k : Nat) : news m j ++ news (m + j) k = news m (j + k) := by
  unfold news
  rw [← List.map_append, List.range'_append_1]
theorem turn_sends {qs : List Bool} {W : Int} (h60 : qs.length ≤ 60) (c : Nat) : ∀ (U : List (Nat × Bool)) (m : Nat) (ps : List PackV) (cs : List ChangeV), Turn qs W U m → qs.length - m = c →
    ∃ k cs', k ≤ c ∧ (k = c ∨ W ≤ (U.length : Int) + k) ∧ (SS.mk (tOS qs W U m) ps cs).sends (List.range' U.length c) = ⟨tOS qs W (U ++ news m k) (m + k), ps ++ (news m k).map (tPub qs), cs'⟩ ∧ Turn qs W (U ++ news m k) (m + k) := by
  induction c with
  | zero =>
    intro U m ps cs h _
    refine ⟨0, cs, Nat.le_refl _, .inl rfl, ?_, ?_⟩
    · simp [news, SS.sends]
    · simpa [news] using h
  | succ c ih =>
    intro U m ps cs h hc
    by_cases hw : (U.length : Int) < W
    · obtain ⟨h1, h2⟩ := turn_one h h60 (by omega) hw ps cs
      obtain ⟨k, cs', k1, k2, k3, k4⟩ := ih (U ++ [(m, false)]) (m + 1) (ps ++ [tPub qs (m, false)]) (cs ++ [⟨false, tUnd qs (m, false)⟩]) h2 (by omega)
      refine ⟨k + 1, cs', by omega, ?_, ?_, ?_⟩
      · simp only [List.length_append, List.length_cons, List.length_nil] at k2
        omega
      · rw [List.range'_succ]
        show ((SS.mk (tOS qs W U m) ps cs).send U.length).sends _ = _
        rw [h1, news_succ, show m + (k + 1) = m + 1 + k by omega]
        simp only [List.length_append, List.length_cons, List.length_nil, Nat.zero_add] at k3
        rw [k3]
        simp
      · rw [news_succ, show m + (k + 1) = m + 1 + k by omega]
        simpa using k4
    · refine ⟨0, cs, Nat.zero_le _, .inr (by omega), ?_, ?_⟩
      · rw [SS.sends_full _ _ (by show W ≤ ((idsOf (tL qs U m)).length : Int); rw [tL_ids, List.length_map]; omega)]
        simp [news]
      · simpa [news] using h
theorem tL_wait (qs : List Bool) (U : List (Nat × Bool)) (m : Nat) : waitQ (stOf (tL qs U m)) (tL qs U m).length = List.range' U.length (qs.length - m) := by
  rw [tL_len]
  unfold waitQ
  rw [List.range_add, List.filter_append]
  have h1 : (List.range U.length).filter (fun i => decide (stOf (tL qs U m) i = 1)) = [] := by
    rw [List.filter_eq_nil_iff]
    intro i hi
    simp only [List.mem_range] at hi
    unfold stOf tL
    rw [List.getElem?_append_left (by simpa using hi)]
    simp only [List.getElem?_map, List.getElem?_eq_getElem hi, Option.map_some, Option.getD_some, decide_eq_true_eq]
    unfold tUnd
    dsimp only
    split <;> simp
  have h2 : ((List.range (qs.length - m)).map (U.length + ·)).filter (fun i => decide (stOf (tL qs U m) i = 1)) = (List.range (qs.length - m)).map (U.length + ·) := by
    rw [List.filter_eq_self]
    intro i hi
    simp only [List.mem_map, List.mem_range] at hi
    obtain ⟨j, hj, rfl⟩ := hi
    unfold stOf tL
    rw [List.getElem?_append_right (by simp)]
    simp [hj, tRow]
  rw [h1, h2, List.nil_append, List.range'_eq_map_range]
theorem turn_all {qs : List Bool} {W : Int} (h60 : qs.length ≤ 60) {U : List (Nat × Bool)} {m : Nat} (h : Turn qs W U m) (ps : List PackV) (cs : List ChangeV) :
    ∃ k cs', (SS.mk (tOS qs W U m) ps cs).all = ⟨tOS qs W (U ++ news m k) (m + k), ps ++ (news m k).map (tPub qs), cs'⟩ ∧ Turn qs W (U ++ news m k) (m + k) ∧ (m + k < qs.length → ((U ++ news m k).length : Int) = W) := by
  obtain ⟨k, cs', k1, k2, k3, k4⟩ := turn_sends h60 (qs.length - m) U m ps cs h rfl
  refine ⟨k, cs', ?_, k4, fun hlt => ?_⟩
  · unfold SS.all
    show (SS.mk (tOS qs W U m) ps cs).sends (waitQ (stOf (tL qs U m)) (tL qs U m).length) = _
    rw [tL_wait, k3]
  · have := k4.win
    rw [List.length_append, news_len] at this ⊢
    omega

/-! ### What is heard -/
theorem idxOf_split {α : Type} (p : α → Bool) (A : List α) (x : α) (B : List α) (h : ∀ y ∈ A, p y = false) (hx : p x = true) : idxOf p (A ++ x :: B) = A.length := by
  induction A with
  | nil => simp [idxOf, hx]
  | cons y A ih =>
    have := ih fun z hz => h z (by simp [hz])
    simp [idxOf, h y (by simp), this]
    omega
theorem tL_split (qs : List Bool) (A : List (Nat × Bool)) (e : Nat × Bool) (B : List (Nat × Bool)) (m : Nat) : tL qs (A ++ e :: B) m = A.map (tUnd qs) ++ tUnd qs e :: (B.map (tUnd qs) ++ (List.range' m (qs.length - m)).map (tRow qs)) := by simp [tL]
theorem turn_idx {qs : List Bool} {A : List (Nat × Bool)} {e : Nat × Bool} {B : List (Nat × Bool)} (hn : ((A ++ e :: B).map Prod.fst).Nodup) (m : Nat) : idxOf (RowV.has ((e.1 : Int) + 1)) (tL qs (A ++ e :: B) m) = A.length := by
  rw [tL_split, idxOf_split, List.length_map]
  · intro r hr
    simp only [List.mem_map] at hr
    obtain ⟨x, hx, rfl⟩ := hr
    rw [List.map_append, List.nodup_append] at hn
    have := hn.2.2 x.1 (List.mem_map_of_mem hx) e.1 (by simp)
    simp [RowV.has, tUnd]
    omega
  · simp only [RowV.has, tUnd]
    split <;> simp
theorem t_gone {qs : List Bool} {W : Int} {A : List (Nat × Bool)} {e : Nat × Bool} {B : List (Nat × Bool)} {m : Nat} (hn : ((A ++ e :: B).map Prod.fst).Nodup) (st q : Int) (hs : (tUnd qs e).stage = st) (hq : tQ qs e.1 = q) :
    ∃ cs, (tOS qs W (A ++ e :: B) m).start.goneAt (idxOf (RowV.has ((e.1 : Int) + 1)) (tOS qs W (A ++ e :: B) m).start.s.l) st q = ⟨tOS qs W (A ++ B) m, [], cs⟩ := by
  have hx : idxOf (RowV.has ((e.1 : Int) + 1)) (tOS qs W (A ++ e :: B) m).start.s.l = A.length := turn_idx hn m
  have hg : (tOS qs W (A ++ e :: B) m).start.s.l[A.length]? = some (tUnd qs e) := by
    show (tL qs (A ++ e :: B) m)[A.length]? = _
    rw [tL_split, List.getElem?_append_right (by simp)]
    simp
  rw [hx]
  unfold SS.goneAt
  rw [if_neg (by omega), Int.toNat_natCast]
  unfold SS.goneIf SS.gone
  rw [hg]
  dsimp only
  rw [if_pos ⟨hs, hq⟩]
  have : (tOS qs W (A ++ e :: B) m).start.s.l.eraseIdx A.length = tL qs (A ++ B) m := by
    show (tL qs (A ++ e :: B) m).eraseIdx A.length = _
    rw [tL_split, List.eraseIdx_append_of_length_le (by simp)]
    simp [tL]
  rw [this]
  exact ⟨_, rfl⟩
theorem t_ack {qs : List Bool} {W : Int} {A : List (Nat × Bool)} {j : Nat} {B : List (Nat × Bool)} {m : Nat} (hn : ((A ++ (j, false) :: B).map Prod.fst).Nodup) (hq : tQ qs j = 1) :
    ∃ cs, (tOS qs W (A ++ (j, false) :: B) m).start.ack ((j : Int) + 1) = ⟨tOS qs W (A ++ B) m, [], cs⟩ := t_gone hn 2 1 rfl hq
theorem t_comp {qs : List Bool} {W : Int} {A : List (Nat × Bool)} {j : Nat} {B : List (Nat × Bool)} {m : Nat} (hn : ((A ++ (j, true) :: B).map Prod.fst).Nodup) (hq : tQ qs j = 2) :
    ∃ cs, (tOS qs W (A ++ (j, true) :: B) m).start.comp ((j : Int) + 1) = ⟨tOS qs W (A ++ B) m, [], cs⟩ := t_gone hn 3 2 rfl hq
theorem t_rec {qs : List Bool} {W : Int} {A : List (Nat × Bool)} {j : Nat} {B : List (Nat × Bool)} {m : Nat} (hn : ((A ++ (j, false) :: B).map Prod.fst).Nodup) (hq : tQ qs j = 2) :
    ∃ cs, (tOS qs W (A ++ (j, false) :: B) m).start.rec' ((j : Int) + 1) = ⟨tOS qs W (A ++ (j, true) :: B) m, [pubrel ((j : Int) + 1)], cs⟩ := by
  have hx : idxOf (RowV.has ((j : Int) + 1)) (tOS qs W (A ++ (j, false) :: B) m).start.s.l = A.length := turn_idx hn m
  have hg : (tOS qs W (A ++ (j, false) :: B) m).start.s.l[A.length]? = some (tUnd qs (j, false)) := by
    show (tL qs (A ++ (j, false) :: B) m)[A.length]? = _
    rw [tL_split, List.getElem?_append_right (by simp)]
    simp
  unfold SS.rec' SS.pubrec
  rw [hx, if_neg (by omega), Int.toNat_natCast, hg]
  dsimp only
  rw [if_pos (show (tUnd qs (j, false)).qos = 2 from hq)]
  unfold SS.recv
  rw [hg]
  dsimp only
  rw [if_pos (show (tUnd qs (j, false)).stage = 2 from rfl)]
  have : (tOS qs W (A ++ (j, false) :: B) m).start.s.l.set A.length { tUnd qs (j, false) with stage := 3 } = tL qs (A ++ (j, true) :: B) m := by
    show (tL qs (A ++ (j, false) :: B) m).set A.length _ = _
    rw [tL_split, List.set_append, if_neg (by simp)]
    simp [tL]
    rfl
  rw [this]
  exact ⟨_, rfl⟩

theorem t_again {qs : List Bool} {W : Int} {U : List (Nat × Bool)} {m : Nat} : (tOS qs W U m).again = ⟨tOS qs W U m, U.map fun e => if e.2 then pubrel ((e.1 : Int) + 1) else (tUnd qs e).pub true, []⟩ := by
  unfold OS.again
  congr 1
  show (tL qs U m).flatMap anewP = _
  unfold tL
  rw [List.flatMap_append]
  have h2 : ((List.range' m (qs.length - m)).map (tRow qs)).flatMap anewP = [] := by
    rw [List.flatMap_eq_nil_iff]
    intro r hr
    simp only [List.mem_map] at hr
    obtain ⟨j, _, rfl⟩ := hr
    rfl
  rw [h2, List.append_nil]
  induction U with
  | nil => rfl
  | cons e U ih =>
    rw [List.map_cons, List.flatMap_cons, ih, List.map_cons]
    obtain ⟨j, b⟩ := e
    cases b <;> rfl
/-- Behind i puts. -/
def tPut (qs : List Bool) (W : Int) (i : Nat) : OS := ⟨[99], W, 100, i, 1, (List.range' 0 i).map (tRow qs)⟩
theorem t_put {qs : List Bool} {W : Int} {i : Nat} {b : Bool} (hb : qs[i]? = some b) : (tPut qs W i).put ((tPut qs W i).row [97] [UInt8.ofNat (65 + i)] (if b then 2 else 1) false) = tPut qs W (i + 1) := by
  unfold tPut OS.put OS.row
  rw [List.range'_concat, List.map_append]
  simp [tRow, tQ, hb]
theorem t_put_all (qs : List Bool) (W : Int) : tPut qs W qs.length = tOS qs W [] 0 := by simp [tPut, tOS, tL]
end Go.Proofs.YtodbdojjllabmaaGreatDoor
