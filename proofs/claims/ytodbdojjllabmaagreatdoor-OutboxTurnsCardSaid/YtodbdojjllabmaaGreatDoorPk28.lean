/- OutboxTurns, plainly: what holds at each turn. · OutboxTurns, plainly: from turn to turn. -/
import Derived.Test.YtodbdojjllabmaaGreatDoorPk27
namespace Go.Proofs.YtodbdojjllabmaaGreatDoor
open Go.RowKit Go.Shelf

/-- A packet of a message that is under way. -/
def PackOf (qs : List Bool) (e : Nat × Bool) (p : PackV) : Prop := if e.2 = true then p = pubrel ((e.1 : Int) + 1) else ∃ d, p = (tUnd qs e).pub d
def PacksOf (qs : List Bool) : List (Nat × Bool) → List PackV → Prop
  | [], [] => True
  | e :: E, p :: ps => PackOf qs e p ∧ PacksOf qs E ps
  | _, _ => False
theorem PacksOf.len {qs : List Bool} : ∀ {E : List (Nat × Bool)} {ps : List PackV}, PacksOf qs E ps → ps.length = E.length
  | [], [], _ => rfl
  | _ :: _, _ :: _, h => by simp [PacksOf.len h.2]
  | [], _ :: _, h => h.elim
  | _ :: _, [], h => h.elim
theorem PacksOf.append {qs : List Bool} : ∀ {E : List (Nat × Bool)} {ps : List PackV} {E' : List (Nat × Bool)} {ps' : List PackV}, PacksOf qs E ps → PacksOf qs E' ps' → PacksOf qs (E ++ E') (ps ++ ps')
  | [], [], _, _, _, h' => h'
  | _ :: _, _ :: _, _, _, h, h' => ⟨h.1, PacksOf.append h.2 h'⟩
  | [], _ :: _, _, _, h, _ => h.elim
  | _ :: _, [], _, _, h, _ => h.elim
theorem packs_map (qs : List Bool) (f : Nat × Bool → PackV) (E : List (Nat × Bool)) (h : ∀ e ∈ E, PackOf qs e (f e)) : PacksOf qs E (E.map f) := by
  induction E with
  | nil => trivial
  | cons e E ih => exact ⟨h e (by simp), ih fun x hx => h x (by simp [hx])⟩
theorem packs_news (qs : List Bool) (m k : Nat) : PacksOf qs (news m k) ((news m k).map (tPub qs)) := packs_map qs _ _ (fun e he => by
  unfold news at he
  simp only [List.mem_map] at he
  obtain ⟨j, _, rfl⟩ := he
  exact ⟨false, rfl⟩)
theorem packs_again (qs : List Bool) (U : List (Nat × Bool)) : PacksOf qs U (U.map fun e => if e.2 then pubrel ((e.1 : Int) + 1) else (tUnd qs e).pub true) := packs_map qs _ _ (fun e _ => by
  unfold PackOf
  by_cases h : e.2 = true
  · simp [h]
  · simp only [h]; exact ⟨true, rfl⟩)

/-- What holds, but that the window is full. -/
structure TJ (qs : List Bool) (W : Int) (U : List (Nat × Bool)) (m : Nat) (E : List (Nat × Bool)) (said : Nat) : Prop where
  t : Turn qs W U m
  sub : ∀ e ∈ E, e ∈ U
  nd : (E.map Prod.fst).Nodup
  le : said ≤ m
  ord : E.filter (fun e => decide (said ≤ e.1)) = news said (m - said)
structure TI (qs : List Bool) (W : Int) (U : List (Nat × Bool)) (m : Nat) (E : List (Nat × Bool)) (said : Nat) : Prop extends TJ qs W U m E said where
  full : m < qs.length → (U.length : Int) = W

def wt (qs : List Bool) (e : Nat × Bool) : Nat := if e.2 then 1 else if tQ qs e.1 = 2 then 2 else 1
def Mt (qs : List Bool) (U : List (Nat × Bool)) (m : Nat) : Nat := (U.map (wt qs)).sum + ((news m (qs.length - m)).map (wt qs)).sum
theorem wt_le (qs : List Bool) (e : Nat × Bool) : wt qs e ≤ 2 := by unfold wt; (repeat' split) <;> omega
theorem sum_le (qs : List Bool) (l : List (Nat × Bool)) : (l.map (wt qs)).sum ≤ 2 * l.length := by
  induction l with
  | nil => simp
  | cons e l ih =>
    have := wt_le qs e
    simp only [List.map_cons, List.sum_cons, List.length_cons]
    omega
theorem Mt_start (qs : List Bool) (h : qs.length ≤ 60) : Mt qs [] 0 ≤ 120 := by
  have := sum_le qs (news 0 (qs.length - 0))
  rw [news_len] at this
  unfold Mt
  simp only [List.map_nil, List.sum_nil]
  omega
theorem Mt_news (qs : List Bool) (U : List (Nat × Bool)) (m k : Nat) (h : m + k ≤ qs.length) : Mt qs (U ++ news m k) (m + k) = Mt qs U m := by
  unfold Mt
  have := news_add m k (qs.length - (m + k))
  rw [show k + (qs.length - (m + k)) = qs.length - m by omega] at this
  rw [← this, List.map_append, List.sum_append, List.map_append, List.sum_append]
  omega

theorem news_mem (m k : Nat) (e : Nat × Bool) (h : e ∈ news m k) : m ≤ e.1 ∧ e.1 < m + k ∧ e.2 = false := by
  unfold news at h
  simp only [List.mem_map, List.mem_range'_1] at h
  obtain ⟨j, hj, rfl⟩ := h
  exact ⟨hj.1, hj.2, rfl⟩
/-- More is sent. -/
theorem TJ.more {qs : List Bool} {W : Int} {U : List (Nat × Bool)} {m : Nat} {E : List (Nat × Bool)} {said k : Nat} (h : TJ qs W U m E said) (ht : Turn qs W (U ++ news m k) (m + k)) (hf : m + k < qs.length → ((U ++ news m k).length : Int) = W) :
    TI qs W (U ++ news m k) (m + k) (E ++ news m k) said := by
  refine ⟨⟨ht, fun e he => ?_, ?_, by have := h.le; omega, ?_⟩, hf⟩
  · rcases List.mem_append.1 he with he | he
    · exact List.mem_append_left _ (h.sub e he)
    · exact List.mem_append_right _ he
  · rw [List.map_append, List.nodup_append]
    refine ⟨h.nd, ?_, fun a ha b hb => ?_⟩
    · unfold news
      rw [List.map_map]
      have : (Prod.fst ∘ fun (j : Nat) => (j, false)) = id := rfl
      rw [this, List.map_id]
      exact List.nodup_range'
    · simp only [List.mem_map] at ha hb
      obtain ⟨e, he, rfl⟩ := ha
      obtain ⟨e', he', rfl⟩ := hb
      have h1 := h.t.lt e (h.sub e he)
      have h2 := news_mem m k e' he'
      omega
  · rw [List.filter_append, h.ord]
    have : (news m k).filter (fun e => decide (said ≤ e.1)) = news m k := by
      rw [List.filter_eq_self]
      intro e he
      have h2 := news_mem m k e he
      have := h.le
      simp; omega
    rw [this]
    have h3 := news_add said (m - said) k
    rw [show said + (m - said) = m by have := h.le; omega] at h3
    rw [h3, show m - said + k = m + k - said by have := h.le; omega]
/-- The first that waits is taken. -/
theorem TI.pop {qs : List Bool} {W : Int} {U : List (Nat × Bool)} {m : Nat} {j : Nat} {b : Bool} {E : List (Nat × Bool)} {said : Nat} (h : TI qs W U m ((j, b) :: E) said) :
    (b = false → j ≤ said) ∧ TI qs W U m E (if b = false ∧ j = said then said + 1 else said) ∧ (j < if b = false ∧ j = said then said + 1 else said) ∧ (j, b) ∈ U ∧ j ∉ E.map Prod.fst ∧ (b = true → tQ qs j = 2) := by
  have hnd := h.nd
  rw [List.map_cons, List.nodup_cons] at hnd
  have hU : (j, b) ∈ U := h.sub _ (by simp)
  have hlt := h.t.lt _ hU
  have hord := h.ord
  have sub2 : ∀ e ∈ E, e ∈ U := fun e he => h.sub e (by simp [he])
  have htwo : b = true → tQ qs j = 2 := fun hb => h.t.two (j, b) hU hb
  rw [List.filter_cons] at hord
  by_cases hs : said ≤ j
  · have hs' : decide (said ≤ (j, b).1) = true := by simpa using hs
    rw [if_pos hs'] at hord
    have hpos : said < m := by dsimp only at hlt; omega
    rw [show m - said = (m - (said + 1)) + 1 by omega, news_succ, List.cons.injEq, Prod.mk.injEq] at hord
    obtain ⟨⟨rfl, rfl⟩, h2⟩ := hord
    refine ⟨fun _ => Nat.le_refl _, ?_, by simp, hU, hnd.1, htwo⟩
    rw [if_pos ⟨rfl, rfl⟩]
    refine ⟨⟨h.t, sub2, hnd.2, by omega, ?_⟩, h.full⟩
    rw [← h2]
    apply List.filter_congr
    intro e he
    have : e.1 ≠ j := fun hc => hnd.1 (List.mem_map.2 ⟨e, he, hc⟩)
    apply decide_eq_decide.2
    omega
  · have hs' : ¬ (decide (said ≤ (j, b).1) = true) := by simpa using hs
    rw [if_neg hs'] at hord
    have hne : ¬ (b = false ∧ j = said) := by omega
    rw [if_neg hne]
    exact ⟨fun _ => by omega, ⟨⟨h.t, sub2, hnd.2, h.le, hord⟩, h.full⟩, by omega, hU, hnd.1, htwo⟩
/-- One that is under way is answered: it goes, or turns. -/
theorem TI.heard {qs : List Bool} {W : Int} {A B : List (Nat × Bool)} {m : Nat} {j : Nat} {b : Bool} {E : List (Nat × Bool)} {said : Nat} (h : TI qs W (A ++ (j, b) :: B) m E said) (hj : j < said) (hn : j ∉ E.map Prod.fst) (N : List (Nat × Bool)) (hN : N = [] ∨ N = [(j, true)] ∧ tQ qs j = 2) :
    TJ qs W (A ++ (N ++ B)) m (E ++ N) said ∧ Mt qs (A ++ (N ++ B)) m + wt qs (j, b) = Mt qs (A ++ (j, b) :: B) m + (N.map (wt qs)).sum ∧ ((∀ e ∈ A ++ (j, b) :: B, e ∈ (j, b) :: E) → ∀ e ∈ A ++ (N ++ B), e ∈ E ++ N) := by
  have hnd := h.t.nd
  have hNl : N.length ≤ 1 := by rcases hN with rfl | ⟨rfl, _⟩ <;> simp
  have hN1 : ∀ e ∈ N, e = (j, true) ∧ tQ qs j = 2 := by
    rcases hN with rfl | ⟨rfl, h2⟩
    · intro e he; cases he
    · intro e he; simp at he; exact ⟨he, h2⟩
  have hNf : N.map Prod.fst = [] ∨ N.map Prod.fst = [j] := by
    rcases hN with rfl | ⟨rfl, _⟩
    · exact .inl rfl
    · exact .inr rfl
  have hjA : j ∉ A.map Prod.fst ∧ j ∉ B.map Prod.fst := by
    rw [List.map_append, List.map_cons, List.nodup_append, List.nodup_cons] at hnd
    exact ⟨fun hc => hnd.2.2 j hc j (by simp) rfl, hnd.2.1.1⟩
  have key : ∀ e, e ∈ A ++ (j, b) :: B → e.1 ≠ j → e ∈ A ∨ e ∈ B := by
    intro e he hne
    simp only [List.mem_append, List.mem_cons] at he
    rcases he with he | he | he
    · exact .inl he
    · exact absurd (by rw [he]) hne
    · exact .inr he
  refine ⟨⟨⟨h.t.m_le, ?_, ?_, ?_, ?_⟩, ?_, ?_, h.le, ?_⟩, ?_, ?_⟩
  · rw [List.map_append, List.map_cons, List.nodup_append, List.nodup_cons] at hnd
    obtain ⟨n1, ⟨n2, n3⟩, n4⟩ := hnd
    rw [List.map_append, List.map_append, List.nodup_append, List.nodup_append]
    refine ⟨n1, ⟨?_, n3, fun a ha c hc => ?_⟩, fun a ha c hc => ?_⟩
    · rcases hNf with e | e <;> simp [e]
    · rcases hNf with e | e
      · rw [e] at ha; cases ha
      · rw [e, List.mem_singleton] at ha; subst ha; exact fun he => n2 (he ▸ hc)
    · rcases List.mem_append.1 hc with hc | hc
      · rcases hNf with e | e
        · rw [e] at hc; cases hc
        · rw [e, List.mem_singleton] at hc; subst hc; exact fun he => hjA.1 (he ▸ ha)
      · exact n4 a ha c (by simp [hc])
  · intro e he
    simp only [List.mem_append] at he
    rcases he with he | he | he
    · exact h.t.lt e (by simp [he])
    · rw [(hN1 e he).1]; have := h.t.lt (j, b) (by simp); exact this
    · exact h.t.lt e (by simp [he])
  · intro e he h2
    simp only [List.mem_append] at he
    rcases he with he | he | he
    · exact h.t.two e (by simp [he]) h2
    · rw [(hN1 e he).1]; exact (hN1 e he).2
    · exact h.t.two e (by simp [he]) h2
  · have := h.t.win
    simp only [List.length_append, List.length_cons] at this ⊢
    omega
  · intro e he
    rcases List.mem_append.1 he with he | he
    · have hne : e.1 ≠ j := fun hc => hn (by rw [← hc]; exact List.mem_map_of_mem he)
      rcases key e (h.sub e he) hne with h1 | h1 <;> simp [h1]
    · simp [he]
  · rw [List.map_append, List.nodup_append]
    refine ⟨h.nd, ?_, fun a ha c hc => ?_⟩
    · rcases hNf with e | e <;> simp [e]
    · rcases hNf with e | e
      · rw [e] at hc; cases hc
      · rw [e, List.mem_singleton] at hc; subst hc; exact fun he => hn (he ▸ ha)
  · rw [List.filter_append, h.ord]
    have : N.filter (fun e => decide (said ≤ e.1)) = [] := by
      rw [List.filter_eq_nil_iff]
      intro e he
      rw [(hN1 e he).1]
      simp; omega
    rw [this, List.append_nil]
  · unfold Mt
    simp only [List.map_append, List.map_cons, List.sum_append, List.sum_cons]
    omega
  · intro hc e he
    simp only [List.mem_append] at he
    have back : (e ∈ A ∨ e ∈ B) → e ∈ E := by
      intro h1
      have hne : e.1 ≠ j := by
        rcases h1 with h1 | h1
        · exact fun hc => hjA.1 (by rw [← hc]; exact List.mem_map_of_mem h1)
        · exact fun hc => hjA.2 (by rw [← hc]; exact List.mem_map_of_mem h1)
      have := hc e (by rcases h1 with h1 | h1 <;> simp [h1])
      rcases List.mem_cons.1 this with h2 | h2
      · exact absurd (by rw [h2]) hne
      · exact h2
    rcases he with he | he | he
    · simp [back (.inl he)]
    · simp [he]
    · simp [back (.inr he)]
/-- All that is under way is said again. -/
theorem TI.anew {qs : List Bool} {W : Int} {U : List (Nat × Bool)} {m : Nat} {said : Nat} (h : TI qs W U m [] said) : TJ qs W U m U said := by
  have hord := h.ord
  rw [List.filter_nil] at hord
  have h1 := congrArg List.length hord
  rw [news_len] at h1
  simp at h1
  refine ⟨h.t, fun e he => he, h.t.nd, h.le, ?_⟩
  rw [show m - said = 0 by omega]
  show _ = []
  rw [List.filter_eq_nil_iff]
  intro e he
  have := h.t.lt e he
  simp; omega
theorem TJ.start (qs : List Bool) (W : Int) (hW : 1 ≤ W) : TJ qs W [] 0 [] 0 := by
  refine ⟨⟨Nat.zero_le _, List.nodup_nil, fun e he => (by cases he), fun e he => (by cases he), ?_⟩, fun e he => (by cases he), List.nodup_nil, Nat.le_refl _, rfl⟩
  simp; omega

/-- How many turns there may have been. -/
def Few (qs : List Bool) (turn : Nat) (U : List (Nat × Bool)) (m : Nat) (E : List (Nat × Bool)) : Prop := Mt qs U m ≤ 120 ∧ (turn ≤ 300 ∨ turn + Mt qs U m ≤ 420 ∨ (∀ e ∈ U, e ∈ E) ∧ turn + Mt qs U m ≤ 421)
theorem TI.end' {qs : List Bool} {W : Int} {m : Nat} {E : List (Nat × Bool)} {said : Nat} (h : TI qs W [] m E said) (hW : 1 ≤ W) : m = qs.length ∧ said = qs.length := by
  have h1 : m = qs.length := by
    have := h.t.m_le
    rcases Nat.lt_or_ge m qs.length with hlt | hge
    · have := h.full hlt; simp at this; omega
    · omega
  have hE : E = [] := by
    cases E with
    | nil => rfl
    | cons e E => exact absurd (h.sub e (by simp)) (by simp)
  have hord := h.ord
  rw [hE, List.filter_nil] at hord
  have h2 := congrArg List.length hord
  rw [news_len] at h2
  simp at h2
  have := h.le
  omega
end Go.Proofs.YtodbdojjllabmaaGreatDoor
namespace Go.Proofs.YtodbdojjllabmaaGreatDoor
open Go.RowKit Go.Shelf

/-- What an answer leaves. -/
def HeardIs (qs : List Bool) (W : Int) (U : List (Nat × Bool)) (m : Nat) (e : Nat × Bool) (E : List (Nat × Bool)) (sd : Nat) (X : SS) : Prop :=
  ∃ U' m' N ps cs, X = ⟨tOS qs W U' m', ps, cs⟩ ∧ PacksOf qs N ps ∧ TI qs W U' m' (E ++ N) sd ∧ ps.length ≤ 100 ∧ ∀ t, Few qs t U m (e :: E) → Few qs (t + 1) U' m' (E ++ N)

theorem Few.next {qs : List Bool} {t : Nat} {U U' E E' : List (Nat × Bool)} {m m' : Nat} (h : Few qs t U m E) (hM : Mt qs U' m' + 1 = Mt qs U m) (hc : (∀ e ∈ U, e ∈ E) → ∀ e ∈ U', e ∈ E') : Few qs (t + 1) U' m' E' := by
  obtain ⟨h1, h2⟩ := h
  refine ⟨by omega, ?_⟩
  rcases h2 with h2 | h2 | ⟨h2, h3⟩
  · exact .inr (.inl (by omega))
  · exact .inr (.inl (by omega))
  · exact .inr (.inr ⟨hc h2, by omega⟩)
theorem Few.lost {qs : List Bool} {t : Nat} {U E E' : List (Nat × Bool)} {m : Nat} (h : Few qs t U m E) (ht : t < 300) : Few qs (t + 1) U m E' := ⟨h.1, .inl (by omega)⟩
theorem Few.anew {qs : List Bool} {t : Nat} {U U' E' : List (Nat × Bool)} {m m' : Nat} (h : Few qs t U m []) (hU : U ≠ []) (hM : Mt qs U' m' = Mt qs U m) (hc : ∀ e ∈ U', e ∈ E') : Few qs (t + 1) U' m' E' := by
  obtain ⟨h1, h2⟩ := h
  refine ⟨by omega, .inr (.inr ⟨hc, ?_⟩)⟩
  rcases h2 with h2 | h2 | ⟨h2, h3⟩
  · omega
  · omega
  · cases U with
    | nil => exact absurd rfl hU
    | cons e U => exact absurd (h2 e (by simp)) (by simp)
theorem Few.lt {qs : List Bool} {t : Nat} {U E : List (Nat × Bool)} {m : Nat} (h : Few qs t U m E) : t ≤ 421 := by
  obtain ⟨h1, h2⟩ := h
  rcases h2 with h2 | h2 | ⟨h2, h3⟩ <;> omega

theorem heard_is {qs : List Bool} {W : Int} (h60 : qs.length ≤ 60) {A B : List (Nat × Bool)} {m : Nat} {j : Nat} {b : Bool} {E : List (Nat × Bool)} {sd : Nat} (h : TI qs W (A ++ (j, b) :: B) m E sd) (hj : j < sd) (hn : j ∉ E.map Prod.fst)
    (N : List (Nat × Bool)) (hN : N = [] ∨ N = [(j, true)] ∧ tQ qs j = 2) (hw : wt qs (j, b) = (N.map (wt qs)).sum + 1) (ps : List PackV) (hp : PacksOf qs N ps) (cs : List ChangeV) :
    HeardIs qs W (A ++ (j, b) :: B) m (j, b) E sd (SS.mk (tOS qs W (A ++ (N ++ B)) m) ps cs).all := by
  obtain ⟨g1, g2, g3⟩ := h.heard hj hn N hN
  obtain ⟨k, cs', a1, a2, a3⟩ := turn_all h60 g1.t ps cs
  have hNl : N.length ≤ 1 := by rcases hN with rfl | ⟨rfl, _⟩ <;> simp
  refine ⟨_, _, N ++ news m k, _, cs', a1, hp.append (packs_news qs m k), ?_, ?_, fun t ht => ht.next ?_ ?_⟩
  · rw [← List.append_assoc E N]; exact g1.more a2 a3
  · have := hp.len
    have := a2.m_le
    simp [news_len]
    omega
  · rw [Mt_news _ _ _ _ a2.m_le]; omega
  · intro hc e he
    have hc' := g3 hc
    rcases List.mem_append.1 he with he | he
    · have := hc' e he
      simp only [List.mem_append] at this ⊢
      rcases this with h1 | h1 <;> simp [h1]
    · simp [he]
theorem T_ack {qs : List Bool} {W : Int} (h60 : qs.length ≤ 60) {U : List (Nat × Bool)} {m : Nat} {j : Nat} {E : List (Nat × Bool)} {sd : Nat} (h : TI qs W U m E sd) (hj : j < sd) (hn : j ∉ E.map Prod.fst) (hU : (j, false) ∈ U) (hq : tQ qs j = 1) :
    HeardIs qs W U m (j, false) E sd ((tOS qs W U m).start.ack ((j : Int) + 1)).all := by
  obtain ⟨A, B, rfl⟩ := List.append_of_mem hU
  obtain ⟨cs, hc⟩ := t_ack (W := W) (m := m) h.t.nd hq
  rw [hc]
  exact heard_is h60 h hj hn [] (.inl rfl) (by simp [wt, hq]) [] trivial cs
theorem T_comp {qs : List Bool} {W : Int} (h60 : qs.length ≤ 60) {U : List (Nat × Bool)} {m : Nat} {j : Nat} {E : List (Nat × Bool)} {sd : Nat} (h : TI qs W U m E sd) (hj : j < sd) (hn : j ∉ E.map Prod.fst) (hU : (j, true) ∈ U) (hq : tQ qs j = 2) :
    HeardIs qs W U m (j, true) E sd ((tOS qs W U m).start.comp ((j : Int) + 1)).all := by
  obtain ⟨A, B, rfl⟩ := List.append_of_mem hU
  obtain ⟨cs, hc⟩ := t_comp (W := W) (m := m) h.t.nd hq
  rw [hc]
  exact heard_is h60 h hj hn [] (.inl rfl) (by simp [wt]) [] trivial cs
theorem T_rec {qs : List Bool} {W : Int} (h60 : qs.length ≤ 60) {U : List (Nat × Bool)} {m : Nat} {j : Nat} {E : List (Nat × Bool)} {sd : Nat} (h : TI qs W U m E sd) (hj : j < sd) (hn : j ∉ E.map Prod.fst) (hU : (j, false) ∈ U) (hq : tQ qs j = 2) :
    HeardIs qs W U m (j, false) E sd ((tOS qs W U m).start.rec' ((j : Int) + 1)).all := by
  obtain ⟨A, B, rfl⟩ := List.append_of_mem hU
  obtain ⟨cs, hc⟩ := t_rec (W := W) (m := m) h.t.nd hq
  rw [hc]
  exact heard_is h60 h hj hn [(j, true)] (.inr ⟨rfl, hq⟩) (by simp [wt, hq]) [pubrel ((j : Int) + 1)] ⟨by simp [PackOf], trivial⟩ cs
/-- What beginning anew leaves. -/
theorem T_anew {qs : List Bool} {W : Int} (h60 : qs.length ≤ 60) {U : List (Nat × Bool)} {m : Nat} {sd : Nat} (h : TI qs W U m [] sd) (hU : U ≠ []) :
    ∃ U' m' N ps cs, (tOS qs W U m).again.all = ⟨tOS qs W U' m', ps, cs⟩ ∧ PacksOf qs N ps ∧ TI qs W U' m' N sd ∧ (ps.length : Int) ≤ W ∧ ∀ t, Few qs t U m [] → Few qs (t + 1) U' m' N := by
  rw [t_again]
  obtain ⟨k, cs', a1, a2, a3⟩ := turn_all h60 h.t (U.map fun e => if e.2 then pubrel ((e.1 : Int) + 1) else (tUnd qs e).pub true) []
  refine ⟨_, _, U ++ news m k, _, cs', a1, (packs_again qs U).append (packs_news qs m k), h.anew.more a2 a3, by have := a2.win; simpa [news_len] using this, fun t ht => ht.anew hU (Mt_news _ _ _ _ a2.m_le) fun e he => he⟩
theorem T_send {qs : List Bool} {W : Int} (h60 : qs.length ≤ 60) (hW : 1 ≤ W) :
    ∃ U' m' N ps cs, (tOS qs W [] 0).start.all = ⟨tOS qs W U' m', ps, cs⟩ ∧ PacksOf qs N ps ∧ TI qs W U' m' N 0 ∧ (ps.length : Int) ≤ W ∧ Few qs 0 U' m' N := by
  obtain ⟨k, cs', a1, a2, a3⟩ := turn_all h60 (TJ.start qs W hW).t [] []
  refine ⟨_, _, [] ++ news 0 k, _, cs', a1, PacksOf.append (E := []) (ps := []) trivial (packs_news qs 0 k), (TJ.start qs W hW).more a2 a3, by have := a2.win; simpa [news_len] using this, ⟨by rw [Mt_news _ _ _ _ a2.m_le]; exact Mt_start qs h60, .inl (by omega)⟩⟩
/-- Under is the lesser of the window and of all. -/
theorem TI.min {qs : List Bool} {W : Int} {U : List (Nat × Bool)} {m : Nat} {E : List (Nat × Bool)} {sd : Nat} (h : TI qs W U m E sd) : (if ((tL qs U m).length : Int) < W then ((tL qs U m).length : Int) else W) = (U.length : Int) := by
  rw [tL_len]
  have h1 := h.t.win
  have h2 := h.full
  have h3 := h.t.m_le
  rcases Nat.lt_or_ge m qs.length with hlt | hge
  · have := h2 hlt
    split <;> omega
  · split <;> omega
theorem TI.none {qs : List Bool} {W : Int} {U : List (Nat × Bool)} {m : Nat} {E : List (Nat × Bool)} {sd : Nat} (h : TI qs W U m E sd) (hW : 1 ≤ W) (hl : (tL qs U m).length = 0) : sd = qs.length := by
  rw [tL_len] at hl
  have hU : U = [] := List.eq_nil_of_length_eq_zero (by omega)
  subst hU
  exact (h.end' hW).2
theorem TI.some {qs : List Bool} {W : Int} {U : List (Nat × Bool)} {m : Nat} {E : List (Nat × Bool)} {sd : Nat} (h : TI qs W U m E sd) (hW : 1 ≤ W) (hl : 0 < (tL qs U m).length) : U ≠ [] := by
  rintro rfl
  have := (h.end' hW).1
  rw [tL_len] at hl
  simp at hl
  omega
end Go.Proofs.YtodbdojjllabmaaGreatDoor
