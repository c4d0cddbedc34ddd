/- append(v, u...), both rows of one's own, or none. No program in sight. · The reference of layer 20: changes are applied to rows. · OutboxWindow, plainly: what holds behind any calls. · Contracts of package outbox (part 18): Of without rows, New, Len. · OutboxRows, plainly: what all changes leave. · OutboxRows: the calls of a law, laid behind each other. · Plainly: a call tells few changes. · The reference of layer 19: may a session's row be; any change's row. -/
import Derived.Test.YtoinabapaeebfaaGreatDoorPk07
import Derived.Test.YtoinabapaeebfaaGreatDoorPk18
import Derived.Test.YtoinabapaeebfaaGreatDoorPk15
import Derived.Test.YtoinabapaeebfaaGreatDoorPk11
import Derived.Test.YtoinabapaeebfaaGreatDoorPk17
set_option linter.unusedSimpArgs false
set_option linter.unusedVariables false
namespace Go.Proofs.YtoinabapaeebfaaGreatDoor
open Go.RowKit Go.Shelf

section
variable {P : Program} {w : World} {t e : TypeId} {z : Value} {size bytes : Nat}
theorem run_append_m (ty : TypeId) (E : ElemT P t e z size bytes) (hsz : 0 < size) (base : Nat) (v : Value) (n : Nat) (xs : List Value) (hown : w.ownsRow base e size v n xs)
    (a : Addr) (m c : Nat) (hm1 : 0 < m) (news : List Value) (hl : news.length = m * size) (hnews : ∀ j u, news[j]? = some u → w.cell? (a.add j) = some u) (h1 : ∀ u ∈ news, u.oneCell' = true)
    (h63 : n + m < 100000000) (hbytes : (n + m) * bytes ≤ 140737488355328) (hbase : base ≤ w.heap.size) :
    ∃ v' w', (Builtin.append_ #[t, t] ty #[v, .slice (some a) m c]).run P w = .ok v' w' ∧ w'.ownsRow base e size v' (n + m) (xs ++ news) ∧ w.grownBy w' v.ownBlock ∧ (∀ k, v'.ownBlock = some k → v.ownBlock = some k ∨ w.heap.size ≤ k) := by
  obtain ⟨i, hi, hz0, hz1, hz2⟩ := info_parts E.info
  have hm : n + m ≤ maxLen := by unfold maxLen; omega
  obtain ⟨v', w', hr, h2, h3, _⟩ := run_append_own (P := P) w base t ty e i z size bytes E.ht hi hz0 hz1 hz2 E.hzs hsz v n xs hown a m c news hl hnews h1 hm hbytes hbase
  refine ⟨v', w', hr, h2, h3, fun k hk => ?_⟩
  have hl2 : news.length = m * i.size := by rw [hz1]; exact hl
  rcases hown.2 with ⟨rfl, rfl⟩ | ⟨g, cap, cur, rfl, hbg, hg, hnc, hcm, hcs, htake⟩
  · have hr2 := run_append_nil (P := P) w t ty e i z E.ht hi hz0 a m c news hl2 hnews (by omega) (by omega) (by rw [hz2]; simp at hbytes; omega)
    rw [hr] at hr2
    cases hr2
    simp [Value.ownBlock] at hk
    exact .inr (by omega)
  · by_cases hroom : n + m ≤ cap
    · have hfit : n * i.size + news.length ≤ cur.size := by rw [hl, hcs, hz1, ← Nat.add_mul]; exact Nat.mul_le_mul_right _ hroom
      have hr2 := run_append_room (P := P) w t ty e i E.ht hi g n cap cur hg a m c news hl2 hnews h1 hroom hfit
      rw [hr] at hr2
      cases hr2
      exact .inl hk
    · have holds : ∀ j u, xs[j]? = some u → w.cell? ((⟨g, 0, none⟩ : Addr).add j) = some u := hown.cells (g := g) rfl
      have hr2 := run_append_grow (P := P) w t ty e i z E.ht hi hz0 ⟨g, 0, none⟩ n cap xs (by rw [hz1]; exact hown.1) holds a m c news hl2 hnews (by omega) (by unfold maxLen at hm; omega) (growslice_fits (by omega) (by rw [hz2]; exact hbytes))
      rw [hr] at hr2
      cases hr2
      simp [Value.ownBlock] at hk
      exact .inr (by omega)
theorem run_append_none (ty : TypeId) (E : ElemT P t e z size bytes) (base : Nat) (v : Value) (n : Nat) (xs : List Value) (hown : w.ownsRow base e size v n xs) (c : Nat) (a : Option Addr) (ha : a = none ∨ ∃ g, a = some ⟨g, 0, none⟩) :
    (Builtin.append_ #[t, t] ty #[v, .slice a 0 c]).run P w = .ok v w := by
  obtain ⟨i, hi, hz0, hz1, hz2⟩ := info_parts E.info
  have hn : ∃ b cap, v = .slice b n cap ∧ n ≤ cap := by
    rcases hown.2 with ⟨rfl, rfl⟩ | ⟨g, cap, cur, rfl, _, _, hnc, _⟩
    · exact ⟨none, 0, rfl, Nat.le_refl _⟩
    · exact ⟨_, _, rfl, hnc⟩
  obtain ⟨b, cap, rfl, hle⟩ := hn
  rcases ha with rfl | ⟨g, rfl⟩
  · cases b <;> simp [Builtin.append_, run_underlying E.ht, sizeOf, typeInfo, hi, Builtin.lenOf, hle, run_firstCells_none, storeCells]
  · have hf := run_firstCells_some (P := P) w i.size 0 ⟨g, 0, none⟩ 0 c [] (by simp) (by simp)
    cases b <;> simp [Builtin.append_, run_underlying E.ht, sizeOf, typeInfo, hi, Builtin.lenOf, hle, hf, storeCells]
/-- Whatever the second one is. -/
theorem run_append_rows (ty : TypeId) (E : ElemT P t e z size bytes) (hsz : 0 < size) (base : Nat) (v : Value) (n : Nat) (xs : List Value) (hown : w.ownsRow base e size v n xs)
    (base2 : Nat) (u : Value) (m : Nat) (ys : List Value) (hsrc : w.ownsRow base2 e size u m ys) (h1 : ∀ u ∈ ys, u.oneCell' = true)
    (h63 : n + m < 100000000) (hbytes : (n + m) * bytes ≤ 140737488355328) (hbase : base ≤ w.heap.size) :
    ∃ v' w', (Builtin.append_ #[t, t] ty #[v, u]).run P w = .ok v' w' ∧ w'.ownsRow base e size v' (n + m) (xs ++ ys) ∧ w.grownBy w' v.ownBlock ∧ (∀ k, v'.ownBlock = some k → v.ownBlock = some k ∨ w.heap.size ≤ k) := by
  rcases Nat.eq_zero_or_pos m with rfl | hm
  · have hy : ys = [] := List.eq_nil_of_length_eq_zero (by simpa using hsrc.1)
    subst hy
    obtain ⟨a, c, rfl⟩ := own_slice hsrc
    have ha : a = none ∨ ∃ g, a = some ⟨g, 0, none⟩ := by
      rcases hsrc.2 with ⟨he, _⟩ | ⟨g, cap, cur, he, _⟩
      · cases he; exact .inl rfl
      · cases he; exact .inr ⟨g, rfl⟩
    refine ⟨v, w, run_append_none ty E base v n xs hown c a ha, by simpa using hown, World.grownBy.refl _ _, fun k hk => .inl hk⟩
  · have hcells := fun g => hsrc.cells (g := g)
    rcases hsrc.2 with ⟨rfl, rfl⟩ | ⟨g, cap, cur, rfl, _⟩
    · have := hsrc.1; simp at this
      rcases this with h | h <;> omega
    · exact run_append_m ty E hsz base v n xs hown ⟨g, 0, none⟩ m cap hm ys hsrc.1 (hcells g rfl) h1 h63 hbytes hbase
theorem wp_append_rows {o : Oper} {a : Act} {K : Act → World → Prop} {Q : Exit → Act → World → Prop} (s x : Operand)
    (ho : o.op = .call { callee := .builtin .append, args := #[s, x], argTypes := #[t, t] }) (E : ElemT P t e z size bytes) (hsz : 0 < size)
    (base : Nat) (v : Value) (n : Nat) (xs : List Value) (hs : a.eval s = v) (hown : w.ownsRow base e size v n xs) (base2 : Nat) (u : Value) (m : Nat) (ys : List Value) (hx : a.eval x = u) (hsrc : w.ownsRow base2 e size u m ys) (h1 : ∀ u ∈ ys, u.oneCell' = true)
    (h63 : n + m < 100000000) (hbytes : (n + m) * bytes ≤ 140737488355328) (hbase : base ≤ w.heap.size)
    (h : ∀ v' w', w'.ownsRow base e size v' (n + m) (xs ++ ys) → w.grownBy w' v.ownBlock → (∀ k, v'.ownBlock = some k → v.ownBlock = some k ∨ w.heap.size ≤ k) → K (a.put o.dst v') w') : o.wp P a w K Q := by
  obtain ⟨v', w', hr, h2, h3, h4⟩ := run_append_rows (P := P) (w := w) o.type E hsz base v n xs hown base2 u m ys hsrc h1 h63 hbytes hbase
  unfold Oper.wp execOp
  simp only [ho, resolve, invoke, builtin, Sem.run_bind, Sem.run_pure, Result.andThen_ok, List.map_toArray, List.map_cons, List.map_nil, hs, hx, hr]
  exact h v' w' h2 h3 h4
end
end Go.Proofs.YtoinabapaeebfaaGreatDoor
namespace Go.Proofs.YtoinabapaeebfaaGreatDoor
open Go.RowKit Go.Shelf

section
variable {P : Program} {w : World} {t e : TypeId} {z : Value} {size bytes : Nat}
theorem run_append_zero (ty : TypeId) (E : ElemT P t e z size bytes) (base : Nat) (v : Value) (n : Nat) (xs : List Value) (hown : w.ownsRow base e size v n xs) (c : Nat) (a : Option Addr) :
    (Builtin.append_ #[t, t] ty #[v, .slice a 0 c]).run P w = .ok v w := by
  obtain ⟨i, hi, hz0, hz1, hz2⟩ := info_parts E.info
  have hn : ∃ b cap, v = .slice b n cap ∧ n ≤ cap := by
    rcases hown.2 with ⟨rfl, rfl⟩ | ⟨g, cap, cur, rfl, _, _, hnc, _⟩
    · exact ⟨none, 0, rfl, Nat.le_refl _⟩
    · exact ⟨_, _, rfl, hnc⟩
  obtain ⟨b, cap, rfl, hle⟩ := hn
  rcases a with _ | g
  · cases b <;> simp [Builtin.append_, run_underlying E.ht, sizeOf, typeInfo, hi, Builtin.lenOf, hle, run_firstCells_none, storeCells]
  · have hf := run_firstCells_some (P := P) w i.size 0 g 0 c [] (by simp) (by simp)
    cases b <;> simp [Builtin.append_, run_underlying E.ht, sizeOf, typeInfo, hi, Builtin.lenOf, hle, hf, storeCells]
theorem wp_append_part {o : Oper} {a : Act} {K : Act → World → Prop} {Q : Exit → Act → World → Prop} (s x : Operand)
    (ho : o.op = .call { callee := .builtin .append, args := #[s, x], argTypes := #[t, t] }) (E : ElemT P t e z size bytes) (hsz : 0 < size)
    (base : Nat) (v : Value) (n : Nat) (xs : List Value) (hs : a.eval s = v) (hown : w.ownsRow base e size v n xs) (u : Option Addr) (m c : Nat) (ys : List Value) (hx : a.eval x = .slice u m c) (hl : ys.length = m * size)
    (hsrc : 0 < m → ∃ b, u = some b ∧ ∀ j y, ys[j]? = some y → w.cell? (b.add j) = some y) (h1 : ∀ u ∈ ys, u.oneCell' = true)
    (h63 : n + m < 100000000) (hbytes : (n + m) * bytes ≤ 140737488355328) (hbase : base ≤ w.heap.size)
    (h : ∀ v' w', w'.ownsRow base e size v' (n + m) (xs ++ ys) → w.grownBy w' v.ownBlock → (∀ k, v'.ownBlock = some k → v.ownBlock = some k ∨ w.heap.size ≤ k) → K (a.put o.dst v') w') : o.wp P a w K Q := by
  obtain ⟨v', w', hr, h2, h3, h4⟩ : ∃ v' w', (Builtin.append_ #[t, t] o.type #[v, .slice u m c]).run P w = .ok v' w' ∧ w'.ownsRow base e size v' (n + m) (xs ++ ys) ∧ w.grownBy w' v.ownBlock ∧ (∀ k, v'.ownBlock = some k → v.ownBlock = some k ∨ w.heap.size ≤ k) := by
    rcases Nat.eq_zero_or_pos m with rfl | hm
    · have hy : ys = [] := List.eq_nil_of_length_eq_zero (by simpa using hl)
      subst hy
      exact ⟨v, w, run_append_zero _ E base v n xs hown c u, by simpa using hown, World.grownBy.refl _ _, fun k hk => .inl hk⟩
    · obtain ⟨b, rfl, hc⟩ := hsrc hm
      exact run_append_m _ E hsz base v n xs hown b m c hm ys hl hc h1 h63 hbytes hbase
  unfold Oper.wp execOp
  simp only [ho, resolve, invoke, builtin, Sem.run_bind, Sem.run_pure, Result.andThen_ok, List.map_toArray, List.map_cons, List.map_nil, hs, hx, hr]
  exact h v' w' h2 h3 h4
end

/-- What applying changes leaves; none: something that is not there was to go. -/
def applyR (l : List RowV) (c : ChangeV) : Option (List RowV) :=
  let k := idxOf (fun x => isR x c.row) l
  if c.drop = true ∧ k < 0 then none else some ((if 0 ≤ k then l.eraseIdx k.toNat else l) ++ if c.drop = true then [] else [c.row])
def appliesR : List RowV → List ChangeV → Option (List RowV)
  | l, [] => some l
  | l, c :: cs => (applyR l c).bind fun l' => appliesR l' cs
theorem appliesR_append (cs ds : List ChangeV) : ∀ l, appliesR l (cs ++ ds) = (appliesR l cs).bind fun l' => appliesR l' ds := by
  induction cs with
  | nil => intro l; rfl
  | cons c cs ih =>
    intro l
    simp only [List.cons_append, appliesR]
    cases applyR l c with
    | none => rfl
    | some l' => exact ih l'
theorem applyR_len {l l' : List RowV} {c : ChangeV} (h : applyR l c = some l') : l'.length ≤ l.length + 1 := by
  unfold applyR at h
  dsimp only at h
  split at h
  · cases h
  · cases h
    rw [List.length_append]
    have h1 : (if 0 ≤ idxOf (fun x => isR x c.row) l then l.eraseIdx (idxOf (fun x => isR x c.row) l).toNat else l).length ≤ l.length := by
      split
      · exact (List.eraseIdx_sublist _ _).length_le
      · exact Nat.le_refl _
    have h2 : (if c.drop = true then ([] : List RowV) else [c.row]).length ≤ 1 := by split <;> simp
    omega
theorem applyR_kind {l l' : List RowV} {c : ChangeV} (h : applyR l c = some l') (hl : ∀ x ∈ l, kindOK x) (hc : kindOK c.row) : ∀ x ∈ l', kindOK x := by
  unfold applyR at h
  dsimp only at h
  split at h
  · cases h
  · cases h
    intro x hx
    rcases List.mem_append.1 hx with hx | hx
    · split at hx
      · exact hl x ((List.eraseIdx_sublist _ _).subset hx)
      · exact hl x hx
    · split at hx
      · cases hx
      · simp at hx; subst hx; exact hc
theorem ChangeV.cllen (c : ChangeV) : c.cells.length = 10 := rfl
theorem cl_erase (l : List RowV) (k : Nat) (hk : k < l.length) : (l.eraseIdx k).flatMap RowV.cl = (l.take k).flatMap RowV.cl ++ (l.drop (k + 1)).flatMap RowV.cl := by
  rw [List.eraseIdx_eq_take_drop_succ, List.flatMap_append]
end Go.Proofs.YtoinabapaeebfaaGreatDoor
namespace Go.Proofs.YtoinabapaeebfaaGreatDoor
open Go.RowKit Go.Shelf

structure Rg (l : List RowV) (q : Int) : Prop where
  sorted : (l.map RowV.seq).Pairwise (· < ·)
  lt : ∀ r ∈ l, r.seq < q
  good : ∀ r ∈ l, (r.stage = 1 ∧ r.id = 0) ∨ r.stage = 2 ∨ r.stage = 3
theorem Rg.nil (q : Int) : Rg [] q := ⟨List.Pairwise.nil, by simp, by simp⟩
theorem Rg.push {l : List RowV} {q : Int} (h : Rg l q) (r : RowV) (hs : r.seq = q) (hg : r.stage = 1 ∧ r.id = 0) : Rg (l ++ [r]) (q + 1) := by
  refine ⟨?_, fun x hx => ?_, fun x hx => ?_⟩
  · rw [List.map_append, List.pairwise_append]
    refine ⟨h.sorted, by simp, fun a ha b hb => ?_⟩
    simp only [List.mem_map] at ha
    obtain ⟨x, hx, rfl⟩ := ha
    simp at hb
    subst hb
    rw [hs]
    exact h.lt x hx
  · rcases List.mem_append.1 hx with hx | hx
    · have := h.lt x hx; omega
    · simp at hx; subst hx; omega
  · rcases List.mem_append.1 hx with hx | hx
    · exact h.good x hx
    · simp at hx; subst hx; exact .inl hg
theorem Rg.set {l : List RowV} {q : Int} (h : Rg l q) {i : Nat} {r r' : RowV} (hr : l[i]? = some r) (hs : r'.seq = r.seq) (hg : r'.stage = 2 ∨ r'.stage = 3) : Rg (l.set i r') q := by
  have hm := List.mem_of_getElem? hr
  refine ⟨?_, fun x hx => ?_, fun x hx => ?_⟩
  · have : (l.set i r').map RowV.seq = l.map RowV.seq := by
      rw [List.map_set, hs]
      apply List.ext_getElem?
      intro j
      by_cases hj : i = j
      · subst hj
        rw [List.getElem?_set_self' ]
        simp [hr]
      · rw [List.getElem?_set_ne hj]
    rw [this]; exact h.sorted
  · rcases List.mem_or_eq_of_mem_set hx with hx | rfl
    · exact h.lt x hx
    · rw [hs]; exact h.lt r hm
  · rcases List.mem_or_eq_of_mem_set hx with hx | rfl
    · exact h.good x hx
    · exact .inr hg
theorem Rg.erase {l : List RowV} {q : Int} (h : Rg l q) (i : Nat) : Rg (l.eraseIdx i) q := by
  have hsub := List.eraseIdx_sublist l i
  exact ⟨(h.sorted.sublist (hsub.map _)), fun r hr => h.lt r (hsub.subset hr), fun r hr => h.good r (hsub.subset hr)⟩

/-- What holds of an outbox of that window, that room. -/
structure Wn (W R : Int) (s : OS) : Prop where
  rg : Rg s.l s.seq
  win : s.window = W
  room : s.room = R
theorem Wn.send {W R : Int} {x : SS} (h : Wn W R x.s) (i : Nat) : Wn W R (x.send i).s := by
  unfold SS.send
  split
  · exact h
  · split
    · exact h
    · rename_i r hr
      exact ⟨h.rg.set hr rfl (.inl rfl), h.win, h.room⟩
theorem Wn.sends {W R : Int} {x : SS} (h : Wn W R x.s) (q : List Nat) : Wn W R (x.sends q).s := by
  induction q generalizing x with
  | nil => exact h
  | cons i q ih => exact ih (h.send i)
theorem Wn.all {W R : Int} {x : SS} (h : Wn W R x.s) : Wn W R x.all.s := h.sends _
theorem Wn.gone {W R : Int} {x : SS} (h : Wn W R x.s) (n st q : Int) : Wn W R (x.goneAt n st q).s := by
  unfold SS.goneAt
  split
  · exact h
  · unfold SS.goneIf
    split
    · exact h
    · split
      · unfold SS.gone
        split
        · exact h
        · exact ⟨h.rg.erase _, h.win, h.room⟩
      · exact h
theorem Wn.recd {W R : Int} {x : SS} (h : Wn W R x.s) (n z : Int) : Wn W R (x.pubrec n z).s := by
  unfold SS.pubrec
  split
  · exact h
  · split
    · exact h
    · split
      · unfold SS.recv
        split
        · exact h
        · rename_i r hr
          split
          · exact ⟨h.rg.set hr rfl (.inr rfl), h.win, h.room⟩
          · exact h
      · exact h
theorem Wn.does {W R : Int} {s : OS} (h : Wn W R s) (x : ActV) : Wn W R (s.does x).s := by
  unfold OS.does
  split
  · unfold OS.doPut
    split
    · exact ⟨h.rg.push _ rfl ⟨rfl, rfl⟩, h.win, h.room⟩
    · exact h
  · split
    · exact Wn.all (x := s.start) h
    · split
      · unfold OS.doHear
        split
        · split
          · exact Wn.all (Wn.gone (x := s.start) h _ _ _)
          · split
            · exact Wn.all (Wn.recd (x := s.start) h _ _)
            · split
              · exact Wn.all (Wn.gone (x := s.start) h _ _ _)
              · exact h
        · exact h
      · split
        · exact Wn.all (x := s.again) h
        · exact h
/-- Only a put gives a number more. -/
theorem does_seq (s : OS) (x : ActV) : (s.does x).s.seq ≤ s.seq + 1 := by
  have gn : ∀ n st q, (s.start.goneAt n st q).s.seq = s.seq := fun n st q => (gone_nigh s.start n st q).seq
  have pn : ∀ n z, (s.start.pubrec n z).s.seq = s.seq := fun n z => (pubrec_nigh s.start n z).seq
  have al : ∀ Y : SS, Y.s.seq = s.seq → (Y.all.fin s.seq s.id).s.seq ≤ s.seq + 1 := fun Y hY => by
    have := (all_same Y).2
    show Y.all.s.seq ≤ _
    omega
  unfold OS.does
  split
  · unfold OS.doPut
    split
    · exact Int.le_refl _
    · show s.seq ≤ _; omega
  · split
    · exact al s.start rfl
    · split
      · unfold OS.doHear
        split
        · split
          · exact al _ (gn _ _ _)
          · split
            · exact al _ (pn _ _)
            · split
              · exact al _ (gn _ _ _)
              · show s.seq ≤ _; omega
        · show s.seq ≤ _; omega
      · split
        · exact al s.again rfl
        · show s.seq ≤ _; omega

/-- Nothing waits, or the window is full. -/
def Done1 (s : OS) : Prop := s.window ≤ (idsOf s.l).length ∨ ∀ r ∈ s.l, r.stage ≠ 1
theorem Done1.all {s : OS} (h : Done1 s) (ps : List PackV) (cs : List ChangeV) : (SS.mk s ps cs).all = ⟨s, ps, cs⟩ := by
  rcases h with h | h
  · exact SS.sends_full _ _ h
  · have : waitQ (stOf s.l) s.l.length = [] := by
      unfold waitQ
      rw [List.filter_eq_nil_iff]
      intro i hi
      simp only [List.mem_range] at hi
      unfold stOf
      rw [List.getElem?_eq_getElem hi]
      simpa using h _ (List.getElem_mem hi)
    unfold SS.all
    show (SS.mk s ps cs).sends (waitQ (stOf s.l) s.l.length) = _
    rw [this]
    rfl
theorem send_len_l (x : SS) (i : Nat) : (x.send i).s.l.length = x.s.l.length := (SS.send_alike x i).len
theorem sends_len_l (x : SS) (q : List Nat) : (x.sends q).s.l.length = x.s.l.length := by
  induction q generalizing x with
  | nil => rfl
  | cons i q ih => exact (ih (x.send i)).trans (send_len_l x i)
theorem sends_window (x : SS) (q : List Nat) : (x.sends q).s.window = x.s.window := (sends_same x q).2.2.1
theorem sends_done (q : List Nat) : ∀ (x : SS), (∀ i, i < x.s.l.length → stOf x.s.l i = 1 → i ∈ q) → Done1 (x.sends q).s := by
  induction q with
  | nil =>
    intro x h
    refine .inr fun r hr h1 => ?_
    obtain ⟨i, hi⟩ := List.getElem?_of_mem hr
    have hlt := (List.getElem?_eq_some_iff.1 hi).1
    have : i ∈ ([] : List Nat) := h i hlt (by
      unfold stOf
      show ((x.s.l[i]?).map (·.stage)).getD 0 = 1
      have hi' : x.s.l[i]? = some r := hi
      rw [hi']
      simpa using h1)
    cases this
  | cons i q ih =>
    intro x h
    by_cases hf : x.s.window ≤ (idsOf x.s.l).length
    · rw [SS.sends_full x _ hf]
      exact .inl hf
    · show Done1 ((x.send i).sends q).s
      refine ih (x.send i) fun j hj hs => ?_
      rw [send_len_l] at hj
      by_cases hji : j = i
      · subst hji
        exfalso
        unfold SS.send at hs
        rw [if_neg hf, List.getElem?_eq_getElem hj] at hs
        dsimp only at hs
        unfold stOf at hs
        rw [List.getElem?_set_self hj] at hs
        simp [RowV.sent] at hs
      · have hst : stOf x.s.l j = 1 := by
          unfold stOf at hs ⊢
          rw [SS.send_other x i j hji] at hs
          exact hs
        have := h j hj hst
        rcases List.mem_cons.1 this with h1 | h1
        · exact absurd h1 hji
        · exact h1
theorem all_done (x : SS) : Done1 x.all.s := sends_done _ x fun i hi hs => by
  unfold waitQ
  rw [List.mem_filter]
  exact ⟨List.mem_range.2 hi, by simpa using hs⟩
theorem again_count (s : OS) (h : ∀ r ∈ s.l, (r.stage = 1 ∧ r.id = 0) ∨ r.stage = 2 ∨ r.stage = 3) : (s.l.flatMap anewP).length = (idsOf s.l).length := by
  obtain ⟨cl, wi, ro, sq, ii, l⟩ := s
  dsimp only at h ⊢
  induction l with
  | nil => rfl
  | cons r l ih =>
    have h1 := ih fun x hx => h x (by simp [hx])
    rw [List.flatMap_cons, List.length_append, h1]
    rcases h r (by simp) with ⟨hr, _⟩ | hr | hr
    · simp [anewP, idsOf, hr]
    · simp [anewP, idsOf, hr]; omega
    · simp [anewP, idsOf, hr]; omega
/-- To begin anew, when all is said, says it again and changes nothing. -/
theorem again_done {s : OS} (h : Done1 s) : s.again.all.fin s.seq s.id = ⟨s, s.l.flatMap anewP, []⟩ := by
  unfold OS.again
  rw [h.all]
  unfold SS.fin
  simp
end Go.Proofs.YtoinabapaeebfaaGreatDoor
namespace Go.Proofs.YtoinabapaeebfaaGreatDoor
open Go.RowKit Go.Shelf

set_option maxRecDepth 100000 in
set_option maxHeartbeats 400000 in
theorem bits_Len64_0 (w : World) : Calls Tryz.prog 180 #[.int .u64 0] w fun e w' => e = .returned (.int .i64 0) ∧ w = w' := by
  go_enter Tryz.func180, Tryz.ntmps180
  go_wp2
  go_ret
  refine ⟨?_, rfl⟩
  kernel_rfl
set_option maxRecDepth 100000 in
set_option maxHeartbeats 400000 in
theorem bits_Len_0 (w : World) : Calls Tryz.prog 115 #[.int .u64 0] w fun e w' => e = .returned (.int .i64 0) ∧ w = w' := by
  have C := hid (bits_Len64_0)
  go_enter Tryz.func115, Tryz.ntmps115
  go_wp2_with (go_at_call 180; refine (C.out _).mono ?_; rintro e w1 ⟨rfl, rfl⟩)
  go_ret
  exact ⟨rfl, rfl⟩
set_option maxRecDepth 100000 in
set_option maxHeartbeats 400000 in
theorem insert_nil (f : Value) (w : World) : Calls Tryz.prog 171 #[.slice none 0 0, .int .i64 0, .int .i64 0, f] w fun e w' => e = .returned (.tuple #[]) ∧ w = w' := by
  go_enter Tryz.func171, Tryz.ntmps171
  go_wp2
  go_loopw [8] (fun i wr => i = .int .i64 1 ∧ w = wr) (fun _ _ => 0)
  case atStart => exact ⟨rfl, rfl⟩
  case round =>
    obtain ⟨rfl, rfl⟩ := hrel
    go_wp2
    go_end0
    exact ⟨rfl, rfl⟩
set_option maxRecDepth 100000 in
set_option maxHeartbeats 1000000 in
theorem pdq_nil (f : Value) (w : World) : Calls Tryz.prog 114 #[.slice none 0 0, .int .i64 0, .int .i64 0, .int .i64 0, f] w fun e w' => e = .returned (.tuple #[]) ∧ w = w' := by
  have C := hid (insert_nil f)
  go_enter Tryz.func114, Tryz.ntmps114
  go_wp2
  go_loopw [1, 2] (fun a b wr => a = .int .i64 0 ∧ b = .int .i64 0 ∧ w = wr) (fun _ _ _ => 0)
  case atStart => exact ⟨rfl, rfl, rfl⟩
  case round =>
    obtain ⟨rfl, rfl, rfl⟩ := hrel
    go_wp2_with (go_at_call 171; refine (C.out _).mono ?_; rintro e w1 ⟨rfl, rfl⟩)
    refine bodyPost_ret (results_none rfl _ _ _) rfl ?_
    exact ⟨rfl, rfl⟩
set_option maxRecDepth 100000 in
set_option maxHeartbeats 400000 in
theorem sort_nil (f : Value) (w : World) : Calls Tryz.prog 55 #[.slice none 0 0, f] w fun e w' => e = .returned (.tuple #[]) ∧ w = w' := by
  have C1 := hid (bits_Len_0)
  have C2 := hid (pdq_nil f)
  go_enter Tryz.func55, Tryz.ntmps55
  go_wp2_with (first
    | (go_at_call 115; refine (C1.out _).mono ?_; rintro e w1 ⟨rfl, rfl⟩)
    | (go_at_call 114; refine (C2.out _).mono ?_; rintro e w1 ⟨rfl, rfl⟩))
  go_end0
  exact ⟨rfl, rfl⟩

theorem wp_genW {P : Program} {code : Code} {Q : Exit → Act → World → Prop} {a : Act} {W : World} (C : World → Prop) (hC : C W) (h : ∀ W', C W' → code.wp P Q a W') : code.wp P Q a W := h W hC

def sessV (client : List UInt8) (seq id : Int) : RowV := ⟨1, client, seq, id, [], [], 0, false, 0⟩

set_option maxRecDepth 100000 in
set_option maxHeartbeats 2000000 in
theorem out_Of (window room : Int) (client : List UInt8) (seq id : Int) (w : World) (hT : TzAt w) (hw : 1 ≤ window ∧ window ≤ 100) (hr : 1 ≤ room ∧ room ≤ 1000) (hs : 0 ≤ seq ∧ seq ≤ 4611686018427387904) (hi : 1 ≤ id ∧ id ≤ 65535) (hc : client.length ≤ 23) (hmay : sessMay (sessV client seq id) = true) :
    Calls Tryz.prog 13 #[.int .i64 window, .int .i64 room, .agg (sessV client seq id).vals, .slice none 0 0] w fun e w' => ∃ L, e = .returned (.tuple #[.pointer (some ⟨L.p, 0, none⟩), .int .i64 0]) ∧
      OB w' w'.heap.size L ⟨client, window, room, seq, id, []⟩ [] [] ∧ (L.vp = .slice none 0 0 ∧ L.vc = .slice none 0 0) ∧ Stp [] L.foot w w' := by
  have CK := hid fun w1 => rec_Check_sess client seq id w1 (by omega)
  rw [show sessMay ⟨1, client, seq, id, [], [], 0, false, 0⟩ = true from hmay] at CK
  have CI := hid fun w1 => in_New 100 w1 (by decide) (by decide)
  have CS := hid (sort_nil (.func (.func 56) #[] #[]))
  clear hmay
  unfold sessV RowV.vals at *
  dsimp only at CK ⊢
  have d1 : decide (window < 1) = false := decide_eq_false (by omega)
  have d2 : decide (100 < window) = false := decide_eq_false (by omega)
  have d3 : decide (room < 1) = false := decide_eq_false (by omega)
  have d4 : decide (1000 < room) = false := decide_eq_false (by omega)
  have d5 : decide (room < 0) = false := decide_eq_false (by omega)
  have d6 : decide (id < 1) = false := decide_eq_false (by omega)
  have d7 : decide (65535 < id) = false := decide_eq_false (by omega)
  go_enter Tryz.func13, Tryz.ntmps13
  go_wp2
  refine wp_scope_straight ?_
  go_wp2_with fail
  refine (CI.out _).mono ?_
  rintro e w1 ⟨rfl, hin, hb1⟩
  simp only [World.size_alloc] at hin hb1 ⊢
  have hS1 := (Blk.new w #[.int .i64 1, .string ⟨client.toArray⟩, .int .i64 seq, .int .i64 id, .string ⟨#[]⟩, .string ⟨#[]⟩, .int .i64 0, .bool false, .int .i64 0] 33).below (by simpa using hb1)
  have s0 : w1.cell? ⟨w.heap.size, 0, none⟩ = some (.int .i64 1) := hS1.cell 0
  have s1 : w1.cell? ⟨w.heap.size, 1, none⟩ = some (.string ⟨client.toArray⟩) := hS1.cell 1
  have s2 : w1.cell? ⟨w.heap.size, 2, none⟩ = some (.int .i64 seq) := hS1.cell 2
  have s3 : w1.cell? ⟨w.heap.size, 3, none⟩ = some (.int .i64 id) := hS1.cell 3
  have s4 : w1.cell? ⟨w.heap.size, 4, none⟩ = some (.string ⟨#[]⟩) := hS1.cell 4
  have s5 : w1.cell? ⟨w.heap.size, 5, none⟩ = some (.string ⟨#[]⟩) := hS1.cell 5
  have s6 : w1.cell? ⟨w.heap.size, 6, none⟩ = some (.int .i64 0) := hS1.cell 6
  have s7 : w1.cell? ⟨w.heap.size, 7, none⟩ = some (.bool false) := hS1.cell 7
  have s8 : w1.cell? ⟨w.heap.size, 8, none⟩ = some (.int .i64 0) := hS1.cell 8
  have hin := hid hin
  go_wp2_with fail
  refine (CK.out _).mono ?_
  rintro e w2 ⟨rfl, hb2⟩
  clear s0 s1 s2 s3 s4 s5 s6 s7 s8
  have hS2 := hS1.below hb2
  have t1 : w2.cell? ⟨w.heap.size, 1, none⟩ = some (.string ⟨client.toArray⟩) := hS2.cell 1
  have t2 : w2.cell? ⟨w.heap.size, 2, none⟩ = some (.int .i64 seq) := hS2.cell 2
  have t3 : w2.cell? ⟨w.heap.size, 3, none⟩ = some (.int .i64 id) := hS2.cell 3
  go_wp2_with fail
  have hin2 := hid (hin.out.below hb2)
  have hB02 := hid (((Below.refl _ w).alloc (Nat.le_refl _) (.cells #[.int .i64 1, .string ⟨client.toArray⟩, .int .i64 seq, .int .i64 id, .string ⟨#[]⟩, .string ⟨#[]⟩, .int .i64 0, .bool false, .int .i64 0] 33)).trans ((hb1.mono (by omega)).trans (hb2.mono (by have := hb1.size; simp at this; omega))))
  have hz2 : w.heap.size + 3 ≤ w2.heap.size := by have := hin2.out.box.lt; omega
  refine wp_genW (fun W' => Below w2.heap.size w2 W' ∧ Blk W' w2.heap.size #[.pointer (some ⟨w.heap.size + 1 + 1, 0, none⟩), .string ⟨client.toArray⟩, .int .i64 window, .int .i64 room, .int .i64 seq, .int .i64 id, .slice none 0 0, .slice none 0 0, .slice none 0 0] 123) ⟨(Below.refl _ w2).alloc (Nat.le_refl _) _, Blk.new w2 _ _⟩ ?_
  rintro w3 ⟨hb3, hbox3⟩
  have k6 : w3.cell? ⟨w2.heap.size, 6, none⟩ = some (.slice none 0 0) := hbox3.cell 6
  go_loopw [73] (fun i wr => i = .int .i64 0 ∧ w3 = wr) (fun _ _ => 0)
  case atStart => exact ⟨rfl, rfl⟩
  case round =>
    obtain ⟨rfl, rfl⟩ := hrel
    go_wp2_with (go_at_call 55; refine (CS.out _).mono ?_; rintro e w4 ⟨rfl, rfl⟩)
    go_loopw [17] (fun i wr => i = .int .i64 1 ∧ w3 = wr) (fun _ _ => 0)
    case atStart => exact ⟨rfl, rfl⟩
    case round =>
      obtain ⟨rfl, rfl⟩ := hrel
      go_wp2
      simp only [Exit.noGoto_ret]
      go_returns
      have hB03 := hB02.out.trans (hb3.mono hB02.out.size)
      have hg := hT.lt
      refine ⟨⟨w2.heap.size, w.heap.size + 1 + 1, w.heap.size + 1, .slice none 0 0, .slice none 0 0, .slice none 0 0, [], fun _ => 0⟩, rfl, ⟨Nat.le_refl _, hbox3, hin2.out.below hb3, SetIs.nil, World.ownsRow_nil _ _ _ _, rfl, fun i b r h1 h2 => by simp at h1, List.nodup_nil, World.ownsRow_nil _ _ _ _, World.ownsRow_nil _ _ _ _, hT.below hB03, ?_, ?_⟩, ⟨rfl, rfl⟩, Wrote.of_below hB03, ?_⟩
      · simp only [Lay.foot, blk, Value.ownBlock, Option.toList_none, List.append_nil, List.mem_cons, List.not_mem_nil, or_false, not_or]; omega
      · exact ⟨hw, ⟨hr.2, by simp; omega⟩, ⟨hs.1, Int.le_trans hs.2 (by decide)⟩, hi, hc, fun r hr => by simp at hr, by simp [idsOf], by simp [idsOf]; omega⟩
      · intro x hx
        simp [Lay.foot, blk, Value.ownBlock] at hx
        right
        omega

set_option maxRecDepth 100000 in
set_option maxHeartbeats 400000 in
theorem out_New (window room : Int) (client : List UInt8) (w : World) (hT : TzAt w) (hw : 1 ≤ window ∧ window ≤ 100) (hr : 1 ≤ room ∧ room ≤ 1000) (hc : client.length ≤ 23) (hmay : sessMay (sessV client 0 1) = true) :
    Calls Tryz.prog 10 #[.string ⟨client.toArray⟩, .int .i64 window, .int .i64 room] w fun e w' => ∃ L, e = .returned (.tuple #[.pointer (some ⟨L.p, 0, none⟩), .int .i64 0]) ∧
      OB w' w'.heap.size L ⟨client, window, room, 0, 1, []⟩ [] [] ∧ (L.vp = .slice none 0 0 ∧ L.vc = .slice none 0 0) ∧ Stp [] L.foot w w' := by
  have CO := hid (out_Of window room client 0 1 w hT hw hr (by omega) (by omega) hc hmay)
  clear hmay
  unfold sessV RowV.vals at CO
  go_enter Tryz.func10, Tryz.ntmps10
  go_wp2_with (go_at_call 13; refine CO.out.mono ?_; rintro e w1 ⟨L, rfl, hO, hn, hS⟩)
  go_returns
  exact ⟨L, rfl, hO, hn, hS⟩

set_option maxRecDepth 100000 in
set_option maxHeartbeats 400000 in
theorem out_Len {w : World} {B : Nat} {L : Lay} {s : OS} {ps : List PackV} {cs : List ChangeV} (h : OB w B L s ps cs) :
    Calls Tryz.prog 44 #[.pointer (some ⟨L.p, 0, none⟩)] w fun e w' => e = .returned (.int .i64 s.l.length) ∧ w = w' := by
  have CN := hid (out_none h)
  obtain ⟨a, cap, hv, -⟩ := own_cell h.rows
  have k6 : w.cell? ⟨L.p, 6, none⟩ = some (.slice a s.l.length cap) := (h.box.cell 6).trans (by simp [boxCells, hv])
  go_enter Tryz.func44, Tryz.ntmps44
  go_wp2_with (go_at_call 58; refine CN.out.mono ?_; rintro e w1 ⟨rfl, rfl⟩)
  go_ret
  exact ⟨rfl, rfl⟩
end Go.Proofs.YtoinabapaeebfaaGreatDoor
namespace Go.Proofs.YtoinabapaeebfaaGreatDoor
open Go.RowKit Go.Shelf

theorem idxOf_eraseP {α : Type} (p : α → Bool) (l : List α) (h : 0 ≤ idxOf p l) : l.eraseIdx (idxOf p l).toNat = l.eraseP p := by
  induction l with
  | nil => rfl
  | cons x l ih =>
    unfold idxOf at h ⊢
    by_cases hx : p x = true
    · rw [if_pos hx]
      rw [List.eraseP_cons_of_pos hx]
      rfl
    · rw [if_neg hx] at h ⊢
      dsimp only at h ⊢
      by_cases hr : idxOf p l < 0
      · rw [if_pos hr] at h; omega
      · rw [if_neg hr] at h ⊢
        rw [List.eraseP_cons_of_neg hx, ← ih (by omega), show (idxOf p l + 1).toNat = (idxOf p l).toNat + 1 by omega]
        rfl
theorem idxOf_pos {α : Type} (p : α → Bool) (l : List α) (x : α) (h : x ∈ l) (hx : p x = true) : 0 ≤ idxOf p l := by
  induction l with
  | nil => cases h
  | cons y l ih =>
    unfold idxOf
    by_cases hy : p y = true
    · rw [if_pos hy]; omega
    · rw [if_neg hy]
      dsimp only
      rcases List.mem_cons.1 h with rfl | h
      · exact absurd hx hy
      · have := ih h
        rw [if_neg (by omega)]; omega
/-- One is there. -/
theorem applyR_there {R M : List RowV} {y : RowV} {c : ChangeV} (hp : R.Perm (y :: M)) (hy : isR y c.row = true) (hM : ∀ z ∈ M, isR z c.row = false) :
    ∃ R', applyR R c = some R' ∧ R'.Perm (M ++ if c.drop = true then [] else [c.row]) := by
  have h0 := idxOf_pos (fun x => isR x c.row) R y (hp.mem_iff.2 (List.mem_cons_self ..)) hy
  refine ⟨_, by unfold applyR; dsimp only; rw [if_neg (by omega), if_pos h0], List.Perm.append_right _ ?_⟩
  rw [idxOf_eraseP _ _ h0]
  have := List.Perm.eraseP (fun x => isR x c.row) (l₁ := y :: M) (l₂ := R) (by
    refine List.Pairwise.cons (fun a ha _ h2 => ?_) (List.pairwise_of_forall_mem_list fun a ha b _ h1 _ => ?_)
    · rw [hM a ha] at h2; cases h2
    · rw [hM a ha] at h1; cases h1) hp.symm
  rw [List.eraseP_cons_of_pos (p := fun x => isR x c.row) hy] at this
  exact this.symm
/-- None is there. -/
theorem applyR_new {R M : List RowV} {c : ChangeV} (hp : R.Perm M) (hM : ∀ z ∈ M, isR z c.row = false) (hd : c.drop = false) :
    ∃ R', applyR R c = some R' ∧ R'.Perm (M ++ [c.row]) := by
  have h0 := idxOf_none (fun x => isR x c.row) R (fun x hx => hM x (hp.mem_iff.1 hx))
  refine ⟨R ++ [c.row], by unfold applyR; dsimp only; rw [h0, if_neg (by simp [hd]), if_neg (by omega), hd]; rfl, hp.append_right _⟩
theorem isR_3 (a b : RowV) (ha : a.kind = 3) (hb : b.kind = 3) : isR a b = (decide (a.client = b.client) && decide (a.seq = b.seq)) := by simp [isR, ha, hb]
theorem isR_ne (a b : RowV) (h : a.kind ≠ b.kind) : isR a b = false := by simp [isR, h]
theorem isR_1 (a b : RowV) (ha : a.kind = 1) (hb : b.kind = 1) : isR a b = decide (a.client = b.client) := by simp [isR, ha, hb]

theorem perm_erase {l : List RowV} {i : Nat} {r : RowV} (h : l[i]? = some r) : l.Perm (r :: l.eraseIdx i) := by
  induction l generalizing i with
  | nil => simp at h
  | cons x l ih =>
    cases i with
    | zero => simp at h; subst h; exact List.Perm.refl _
    | succ i => simp at h; exact ((ih h).cons x).trans (List.Perm.swap _ _ _)
theorem perm_set {l : List RowV} {i : Nat} {r : RowV} (r' : RowV) (h : l[i]? = some r) : (l.set i r').Perm (r' :: l.eraseIdx i) := by
  have hlt := (List.getElem?_eq_some_iff.1 h).1
  have h1 : (l.set i r')[i]? = some r' := by rw [List.getElem?_set_self hlt]
  have := perm_erase h1
  rwa [List.eraseIdx_set_eq] at this
theorem seq_other {l : List RowV} (hn : (l.map RowV.seq).Nodup) {i : Nat} {r : RowV} (h : l[i]? = some r) : ∀ z ∈ l.eraseIdx i, z.seq ≠ r.seq := by
  have := ((perm_erase h).map RowV.seq).nodup_iff.1 hn
  rw [List.map_cons, List.nodup_cons] at this
  intro z hz he
  exact this.1 (he ▸ List.mem_map_of_mem hz)
theorem erase_mem {l : List RowV} {i : Nat} {z : RowV} (h : z ∈ l.eraseIdx i) : z ∈ l := (List.eraseIdx_sublist _ _).subset h

theorem ap_at {R l : List RowV} {se : RowV} (hp : R.Perm (se :: l)) (hs : se.kind = 1) (hk : ∀ x ∈ l, x.kind = 3) (hn : (l.map RowV.seq).Nodup) {i : Nat} {r : RowV} (hi : l[i]? = some r) (c : ChangeV) (h3 : c.row.kind = 3) (hc : c.row.client = r.client) (hq : c.row.seq = r.seq) :
    ∃ R', applyR R c = some R' ∧ R'.Perm (se :: (if c.drop = true then l.eraseIdx i else l.set i c.row)) := by
  have hr := hk r (List.mem_of_getElem? hi)
  obtain ⟨R', h1, h2⟩ := applyR_there (R := R) (y := r) (M := se :: l.eraseIdx i) (c := c) (hp.trans (((perm_erase hi).cons se).trans (List.Perm.swap _ _ _))) (by rw [isR_3 _ _ hr h3]; simp [hc, hq]) (fun z hz => by
    rcases List.mem_cons.1 hz with rfl | hz
    · exact isR_ne _ _ (by omega)
    · rw [isR_3 _ _ (hk z (erase_mem hz)) h3, hq]
      simp [seq_other hn hi z hz])
  refine ⟨R', h1, h2.trans ?_⟩
  cases c.drop with
  | true => simp
  | false =>
    show (se :: l.eraseIdx i ++ [c.row]).Perm (se :: l.set i c.row)
    exact (List.Perm.cons se ((List.perm_append_singleton _ _).trans (perm_set _ hi).symm))
theorem ap_new {R l : List RowV} {se : RowV} (hp : R.Perm (se :: l)) (hs : se.kind = 1) (hk : ∀ x ∈ l, x.kind = 3) (r : RowV) (h3 : r.kind = 3) (hq : ∀ x ∈ l, x.seq ≠ r.seq) :
    ∃ R', applyR R ⟨false, r⟩ = some R' ∧ R'.Perm (se :: (l ++ [r])) :=
  applyR_new (c := ⟨false, r⟩) hp (fun z hz => by
    rcases List.mem_cons.1 hz with rfl | hz
    · exact isR_ne _ _ (by show z.kind ≠ r.kind; omega)
    · rw [isR_3 _ _ (hk z hz) h3]
      simp [hq z hz]) rfl
theorem ap_sess {R l : List RowV} {se : RowV} (hp : R.Perm (se :: l)) (hs : se.kind = 1) (hk : ∀ x ∈ l, x.kind = 3) (r : RowV) (h1 : r.kind = 1) (hc : r.client = se.client) :
    ∃ R', applyR R ⟨false, r⟩ = some R' ∧ R'.Perm (r :: l) := by
  obtain ⟨R', h2, h3⟩ := applyR_there (R := R) (y := se) (M := l) (c := ⟨false, r⟩) hp (by rw [isR_1 _ _ hs h1]; simp [hc]) (fun z hz => isR_ne _ _ (by have := hk z hz; show z.kind ≠ r.kind; omega))
  exact ⟨R', h2, h3.trans (List.perm_append_singleton _ _)⟩

/-- A row of that client's outbox. -/
def GRow (c : List UInt8) (r : RowV) : Prop := r.kind = 3 ∧ putMay r = true ∧ stageOK r ∧ r.client = c ∧ r.topic.length ≤ 1000000
/-- On the way: what the changes so far leave of the rows R0. -/
structure PI (W R : Int) (c : List UInt8) (R0 : List RowV) (q0 i0 : Int) (x : SS) : Prop where
  wn : Wn W R x.s
  cl : x.s.client = c
  id : 1 ≤ x.s.id ∧ x.s.id ≤ 65535
  row : ∀ r ∈ x.s.l, GRow c r
  ap : ∃ R', appliesR R0 x.cs = some R' ∧ R'.Perm (sessV c q0 i0 :: x.s.l)
  chg : ∀ ch ∈ x.cs, GRow c ch.row
theorem appliesR_snoc {R0 R1 R2 : List RowV} {cs : List ChangeV} {c : ChangeV} (h1 : appliesR R0 cs = some R1) (h2 : applyR R1 c = some R2) : appliesR R0 (cs ++ [c]) = some R2 := by
  rw [appliesR_append, h1]
  show (applyR R1 c).bind _ = _
  rw [h2]
  rfl
theorem Rg.nodup {l : List RowV} {q : Int} (h : Rg l q) : (l.map RowV.seq).Nodup := h.sorted.imp fun h => by omega
section
variable {W R : Int} {c : List UInt8} {R0 : List RowV} {q0 i0 : Int} {x : SS}
theorem PI.kind (h : PI W R c R0 q0 i0 x) : ∀ r ∈ x.s.l, r.kind = 3 := fun r hr => (h.row r hr).1
/-- A change of the row at a place. -/
theorem PI.step (h : PI W R c R0 q0 i0 x) {i : Nat} {r : RowV} (hi : x.s.l[i]? = some r) (ch : ChangeV) (hg : GRow c ch.row) (hq : ch.row.seq = r.seq) :
    ∃ R', appliesR R0 (x.cs ++ [ch]) = some R' ∧ R'.Perm (sessV c q0 i0 :: (if ch.drop = true then x.s.l.eraseIdx i else x.s.l.set i ch.row)) := by
  obtain ⟨R', h1, h2⟩ := h.ap
  obtain ⟨R2, h3, h4⟩ := ap_at h2 rfl h.kind h.wn.rg.nodup hi ch hg.1 (by rw [hg.2.2.2.1, (h.row r (List.mem_of_getElem? hi)).2.2.2.1]) hq
  exact ⟨R2, appliesR_snoc h1 h3, h4⟩
theorem chg_snoc {cs : List ChangeV} (h : ∀ ch ∈ cs, GRow c ch.row) (d : ChangeV) (hd : GRow c d.row) : ∀ ch ∈ cs ++ [d], GRow c ch.row := fun ch hc => by
  rcases List.mem_append.1 hc with hc | hc
  · exact h ch hc
  · simp at hc; subst hc; exact hd
theorem PI.set (h : PI W R c R0 q0 i0 x) {i : Nat} {r : RowV} (hi : x.s.l[i]? = some r) (r' : RowV) (hg : GRow c r') (hq : r'.seq = r.seq) (id' : Int) (hid : 1 ≤ id' ∧ id' ≤ 65535) (ps : List PackV) (hw : Wn W R { x.s with l := x.s.l.set i r', id := id' }) :
    PI W R c R0 q0 i0 ⟨{ x.s with l := x.s.l.set i r', id := id' }, ps, x.cs ++ [⟨false, r'⟩]⟩ :=
  ⟨hw, h.cl, hid, fun z hz => (List.mem_or_eq_of_mem_set hz).elim (h.row z) (fun e => e ▸ hg), by simpa using h.step hi ⟨false, r'⟩ hg hq, chg_snoc h.chg _ hg⟩
theorem PI.send (h : PI W R c R0 q0 i0 x) (i : Nat) : PI W R c R0 q0 i0 (x.send i) := by
  have hw := h.wn.send i
  unfold SS.send at hw ⊢
  split
  · exact h
  · rename_i hn
    rw [if_neg hn] at hw
    split
    · exact h
    · rename_i r hr
      have hy := firstI_range (idsOf x.s.l).length x.s.id (idsOf x.s.l) h.id
      obtain ⟨g1, g2, g3, g4, g5⟩ := h.row r (List.mem_of_getElem? hr)
      rw [hr] at hw
      exact h.set hr _ (show GRow c (r.sent (firstI (idsOf x.s.l).length x.s.id (idsOf x.s.l))) from ⟨g1, g2, .inr ⟨hy, .inl rfl⟩, g4, g5⟩) rfl _ (by omega) _ hw
theorem PI.sends (h : PI W R c R0 q0 i0 x) (q : List Nat) : PI W R c R0 q0 i0 (x.sends q) := by
  induction q generalizing x with
  | nil => exact h
  | cons i q ih => exact ih (h.send i)
theorem PI.all (h : PI W R c R0 q0 i0 x) : PI W R c R0 q0 i0 x.all := h.sends _
theorem PI.gone (h : PI W R c R0 q0 i0 x) (n st q : Int) : PI W R c R0 q0 i0 (x.goneAt n st q) := by
  have hw := h.wn.gone n st q
  unfold SS.goneAt at hw ⊢
  split
  · exact h
  · rename_i hn
    rw [if_neg hn] at hw
    unfold SS.goneIf at hw ⊢
    split
    · exact h
    · rename_i r hr
      rw [hr] at hw
      dsimp only at hw
      split
      · rename_i hs
        rw [if_pos hs] at hw
        unfold SS.gone at hw ⊢
        rw [hr] at hw ⊢
        have hg := h.row r (List.mem_of_getElem? hr)
        exact ⟨hw, h.cl, h.id, fun z hz => h.row z (erase_mem hz), by simpa using h.step hr ⟨true, r⟩ hg rfl, chg_snoc h.chg _ hg⟩
      · exact h
theorem PI.recd (h : PI W R c R0 q0 i0 x) (n z : Int) : PI W R c R0 q0 i0 (x.pubrec n z) := by
  have hw := h.wn.recd n z
  unfold SS.pubrec at hw ⊢
  split
  · exact ⟨h.wn, h.cl, h.id, h.row, h.ap, h.chg⟩
  · rename_i hn
    rw [if_neg hn] at hw
    split
    · exact h
    · rename_i r hr
      rw [hr] at hw
      dsimp only at hw
      split
      · rename_i hs
        rw [if_pos hs] at hw
        unfold SS.recv at hw ⊢
        rw [hr] at hw ⊢
        dsimp only at hw ⊢
        split
        · rename_i h2
          rw [if_pos h2] at hw
          obtain ⟨g1, g2, g3, g4, g5⟩ := h.row r (List.mem_of_getElem? hr)
          have hid : 1 ≤ r.id ∧ r.id ≤ 65535 := by
            rcases g3 with g3 | g3
            · omega
            · exact g3.1
          exact h.set hr { r with stage := 3 } ⟨g1, g2, .inr ⟨hid, .inr ⟨rfl, hs⟩⟩, g4, g5⟩ rfl _ h.id _ hw
        · rename_i h2
          rw [if_neg h2] at hw
          exact ⟨h.wn, h.cl, h.id, h.row, h.ap, h.chg⟩
      · exact h
end
/-- A row of a change. -/
def CRow (c : List UInt8) (r : RowV) : Prop := GRow c r ∨ ∃ q i, r = sessV c q i ∧ sessMay (sessV c q i) = true ∧ 1 ≤ i ∧ i ≤ 65535
/-- What is known of an outbox of the client c between calls. -/
structure PO (W R : Int) (c : List UInt8) (s : OS) : Prop where
  wn : Wn W R s
  cl : s.client = c
  id : 1 ≤ s.id ∧ s.id ≤ 65535
  row : ∀ r ∈ s.l, GRow c r
  may : clientR c = true
  pos : 0 ≤ s.seq
structure PD (W R : Int) (c : List UInt8) (R0 : List RowV) (X : SS) : Prop where
  po : PO W R c X.s
  ap : ∃ R', appliesR R0 X.cs = some R' ∧ R'.Perm (X.s.session :: X.s.l)
  chg : ∀ ch ∈ X.cs, CRow c ch.row
theorem sess_may {c : List UInt8} (hm : clientR c = true) {q i : Int} (hq : 0 ≤ q ∧ q ≤ 4611686018427387904) (hi : 1 ≤ i ∧ i ≤ 65535) : sessMay (sessV c q i) = true := by
  unfold sessMay sessV
  simp only [hm, Bool.true_and, Bool.and_eq_true, decide_eq_true_eq]
  omega
theorem OS.session_eq {s : OS} {c : List UInt8} (h : s.client = c) : s.session = sessV c s.seq s.id := by rw [← h]; rfl
section
variable {W R : Int} {c : List UInt8} {R0 : List RowV} {s : OS}
theorem PO.begin (h : PO W R c s) (hp : R0.Perm (s.session :: s.l)) (ps : List PackV) : PI W R c R0 s.seq s.id ⟨s, ps, []⟩ :=
  ⟨h.wn, h.cl, h.id, h.row, ⟨R0, rfl, by rw [← OS.session_eq h.cl]; exact hp⟩, fun _ hc => by cases hc⟩
theorem PI.fin {q0 i0 : Int} {x : SS} (h : PI W R c R0 q0 i0 x) (hm : clientR c = true) (hs : 0 ≤ x.s.seq ∧ x.s.seq ≤ 4611686018427387904) : PD W R c R0 (x.fin q0 i0) := by
  obtain ⟨R', h1, h2⟩ := h.ap
  refine ⟨⟨h.wn, h.cl, h.id, h.row, hm, hs.1⟩, ?_, ?_⟩
  · unfold SS.fin
    dsimp only
    rw [OS.session_eq h.cl]
    split
    · rename_i he
      rw [List.append_nil, he.1, he.2]
      exact ⟨R', h1, h2⟩
    · obtain ⟨R2, h3, h4⟩ := ap_sess h2 rfl h.kind (sessV c x.s.seq x.s.id) rfl rfl
      exact ⟨R2, appliesR_snoc h1 h3, h4⟩
  · unfold SS.fin
    dsimp only
    rw [OS.session_eq h.cl]
    intro ch hc
    rcases List.mem_append.1 hc with hc | hc
    · exact .inl (h.chg ch hc)
    · split at hc
      · cases hc
      · simp at hc
        subst hc
        exact .inr ⟨_, _, rfl, sess_may hm hs h.id, h.id⟩
theorem PO.same (h : PO W R c s) (hp : R0.Perm (s.session :: s.l)) : PD W R c R0 ⟨s, [], []⟩ := ⟨h, ⟨R0, rfl, hp⟩, fun _ hc => by cases hc⟩
theorem all_seq (x : SS) : x.all.s.seq = x.s.seq := (all_same x).2
theorem PO.does (h : PO W R c s) (hp : R0.Perm (s.session :: s.l)) (hs : s.seq + 1 ≤ 4611686018427387904) (x : ActV) (ht : x.topic.length ≤ 1000000) : PD W R c R0 (s.does x) := by
  have hpos := h.pos
  have fin : ∀ Y : SS, PI W R c R0 s.seq s.id Y → Y.s.seq = s.seq → PD W R c R0 (Y.all.fin s.seq s.id) := fun Y hY he => hY.all.fin h.may (by rw [all_seq, he]; omega)
  have gn : ∀ n st q, (s.start.goneAt n st q).s.seq = s.seq := fun n st q => (gone_nigh s.start n st q).seq
  have pn : ∀ n z, (s.start.pubrec n z).s.seq = s.seq := fun n z => (pubrec_nigh s.start n z).seq
  have b0 : PI W R c R0 s.seq s.id s.start := h.begin hp []
  unfold OS.does
  split
  · unfold OS.doPut
    split
    · rename_i hm
      have hg : GRow c (s.row x.topic x.body x.qos x.retain) := ⟨rfl, hm.1, .inl ⟨rfl, rfl⟩, h.cl, ht⟩
      obtain ⟨R1, h1, h2⟩ := ap_new hp rfl (fun r hr => (h.row r hr).1) _ hg.1 (fun z hz => by have := h.wn.rg.lt z hz; show z.seq ≠ s.seq; omega)
      have hall : ∀ z ∈ s.l ++ [s.row x.topic x.body x.qos x.retain], GRow c z := fun z hz => by
        rcases List.mem_append.1 hz with hz | hz
        · exact h.row z hz
        · simp at hz; subst hz; exact hg
      obtain ⟨R2, h3, h4⟩ := ap_sess h2 rfl (fun r hr => (hall r hr).1) (s.put (s.row x.topic x.body x.qos x.retain)).session rfl rfl
      refine ⟨⟨⟨h.wn.rg.push _ rfl ⟨rfl, rfl⟩, h.wn.win, h.wn.room⟩, h.cl, h.id, hall, h.may, by show 0 ≤ s.seq + 1; omega⟩, ⟨R2, ?_, h4⟩, fun ch hc => ?_⟩
      · exact appliesR_snoc (cs := [_]) (by show (applyR R0 _).bind _ = _; rw [h1]; rfl) h3
      · simp only [List.mem_cons, List.not_mem_nil, or_false] at hc
        rcases hc with rfl | rfl
        · exact .inl hg
        · refine .inr ⟨s.seq + 1, s.id, OS.session_eq (s := s.put _) h.cl, sess_may h.may (by omega) h.id, h.id⟩
    · exact h.same hp
  · split
    · exact fin _ b0 rfl
    · split
      · unfold OS.doHear
        split
        · split
          · exact fin _ (b0.gone _ _ _) (gn _ _ _)
          · split
            · exact fin _ (b0.recd _ _) (pn _ _)
            · split
              · exact fin _ (b0.gone _ _ _) (gn _ _ _)
              · exact h.same hp
        · exact h.same hp
      · split
        · exact fin _ (h.begin hp _) rfl
        · exact h.same hp
end
end Go.Proofs.YtoinabapaeebfaaGreatDoor
namespace Go.Proofs.YtoinabapaeebfaaGreatDoor
open Go.RowKit Go.Shelf

theorem eAct : ElemT Tryz.prog 23 43 (.agg (ActV.cells ⟨0, 0, [], [], false, 0, 0⟩)) 7 72 := ⟨Tryz.underlying23, by kernel_rfl, by kernel_rfl⟩
def ActV.cl (x : ActV) : List Value := x.cells.toList
theorem ActV.cllen (x : ActV) : x.cl.length = 7 := rfl
theorem act_len (l : List ActV) : (l.flatMap ActV.cl).length = l.length * 7 := by
  induction l with
  | nil => rfl
  | cons x l ih => rw [List.flatMap_cons, List.length_append, ActV.cllen, ih, List.length_cons]; omega
theorem act_one (l : List ActV) : ∀ u ∈ l.flatMap ActV.cl, u.oneCell' = true := fun u hu => by
  obtain ⟨x, _, hx⟩ := List.mem_flatMap.1 hu
  revert hx
  simp [ActV.cl, ActV.cells]
  rintro (rfl | rfl | rfl | rfl | rfl | rfl | rfl) <;> rfl
theorem act_get (l : List ActV) : ∀ j y, (l.flatMap ActV.cl)[j]? = some y → ∃ i x k, l[i]? = some x ∧ j = i * 7 + k ∧ x.cl[k]? = some y := by
  induction l with
  | nil => intro j y h; simp at h
  | cons x l ih =>
    intro j y h
    rw [List.flatMap_cons] at h
    rcases Nat.lt_or_ge j 7 with hj | hj
    · rw [List.getElem?_append_left (by rw [ActV.cllen]; exact hj)] at h
      exact ⟨0, x, j, rfl, by omega, h⟩
    · rw [List.getElem?_append_right (by rw [ActV.cllen]; exact hj), ActV.cllen] at h
      obtain ⟨i, z, k, h1, h2, h3⟩ := ih _ _ h
      exact ⟨i + 1, z, k, by simpa using h1, by omega, h3⟩
theorem ActsAt.src {w : World} {a : Option Addr} {n cap : Nat} {xs : List ActV} (h : ActsAt w a n cap xs) : 0 < n → ∃ b, a = some b ∧ ∀ j y, (xs.flatMap ActV.cl)[j]? = some y → w.cell? (b.add j) = some y := by
  intro hn
  obtain ⟨x0, hx0⟩ : ∃ x, xs[0]? = some x := ⟨_, List.getElem?_eq_getElem (by have := h.len; omega)⟩
  obtain ⟨g, off, ha, hg, -⟩ := h.at' 0 x0 hx0
  refine ⟨_, ha, fun j y hj => ?_⟩
  obtain ⟨i, x, k, h1, h2, h3⟩ := act_get xs j y hj
  obtain ⟨g', off', ha', -, hr⟩ := h.at' i x h1
  rw [ha] at ha'
  cases ha'
  have := hr k y h3
  rw [← this]
  rcases Nat.eq_zero_or_pos j with h0 | h0
  · subst h0
    have : i = 0 ∧ k = 0 := by omega
    obtain ⟨rfl, rfl⟩ := this
    simp [Addr.add]
  · simp [Addr.add, show ¬ j = 0 by omega]
    congr 2
    omega
theorem acts_of_own {w : World} {base n c : Nat} {a : Option Addr} {xs : List ActV} (h : w.ownsRow base 43 7 (.slice a n c) n (xs.flatMap ActV.cl)) (hl : xs.length = n) : ActsAt w a n c xs := by
  have hat := fun i x (hx : xs[i]? = some x) => own_range ActV.cl ActV.cllen hl h (k := i) (x := x) hx
  have hlt := fun k => h.lt k
  obtain ⟨h1, ⟨he, h2⟩ | ⟨g, cap, cur, he, _, hg, hnc, hcm, _⟩⟩ := h
  · cases he
    have : xs = [] := List.eq_nil_of_length_eq_zero (by omega)
    subst this
    exact ⟨rfl, by omega, by simp [maxLen], fun i x hx => by simp at hx⟩
  · cases he
    refine ⟨hl, hnc, hcm, fun i x hx => ?_⟩
    obtain ⟨g', ha, _, hr⟩ := hat i x hx
    cases ha
    refine ⟨g, 0, rfl, (hlt g rfl).2, ?_⟩
    rw [Nat.zero_add]
    exact hr
end Go.Proofs.YtoinabapaeebfaaGreatDoor
namespace Go.Proofs.YtoinabapaeebfaaGreatDoor
open Go.RowKit Go.Shelf

theorem start_len5 (s : OS) (h : s.l.length ≤ 1000) : (s.start.all.fin s.seq s.id).ps.length ≤ 5000 ∧ (s.start.all.fin s.seq s.id).cs.length ≤ 5000 := by
  have h1 := all_len s.start h
  have h2 := fin_len s.start.all s.seq s.id
  have e1 : s.start.ps.length = 0 := rfl
  have e2 : s.start.cs.length = 0 := rfl
  exact ⟨by show s.start.all.ps.length ≤ _; omega, by omega⟩
theorem again_len5 (s : OS) (h : s.l.length ≤ 1000) : (s.again.all.fin s.seq s.id).ps.length ≤ 5000 ∧ (s.again.all.fin s.seq s.id).cs.length ≤ 5000 := by
  have h1 := all_len s.again h
  have h2 := fin_len s.again.all s.seq s.id
  have e1 : s.again.ps.length ≤ s.l.length := anew_len s.l
  have e2 : s.again.cs.length = 0 := rfl
  exact ⟨by show s.again.all.ps.length ≤ _; omega, by omega⟩
theorem doHear_len5 (s : OS) (k z : Int) (h : s.l.length ≤ 1000) : (s.doHear k z).ps.length ≤ 5000 ∧ (s.doHear k z).cs.length ≤ 5000 := by
  have gen : ∀ Y : SS, Nigh s.start Y → Y.s.l.length ≤ 1000 → (Y.all.fin s.seq s.id).ps.length ≤ 5000 ∧ (Y.all.fin s.seq s.id).cs.length ≤ 5000 := fun Y hY hl => by
    have h1 := all_len Y hl
    have h2 := fin_len Y.all s.seq s.id
    have h3 := hY.ps
    have h4 := hY.cs
    have e1 : s.start.ps.length = 0 := rfl
    have e2 : s.start.cs.length = 0 := rfl
    exact ⟨by show Y.all.ps.length ≤ _; omega, by omega⟩
  have hg : ∀ n st q, (s.start.goneAt n st q).s.l.length ≤ 1000 := fun n st q => by
    unfold SS.goneAt
    split
    · exact h
    · unfold SS.goneIf
      split
      · exact h
      · split
        · unfold SS.gone
          split
          · exact h
          · show (s.l.eraseIdx _).length ≤ 1000
            have := List.length_eraseIdx_le (l := s.l) (i := n.toNat)
            omega
        · exact h
  unfold OS.doHear
  split
  · split
    · exact gen _ (gone_nigh _ _ _ _) (hg _ _ _)
    · split
      · refine gen _ (pubrec_nigh _ _ _) ?_
        unfold SS.rec' SS.pubrec
        split
        · exact h
        · split
          · exact h
          · split
            · unfold SS.recv
              split
              · exact h
              · split
                · show (s.l.set _ _).length ≤ 1000
                  rw [List.length_set]; exact h
                · exact h
            · exact h
      · split
        · exact gen _ (gone_nigh _ _ _ _) (hg _ _ _)
        · simp
  · simp
theorem does_clen (s : OS) (x : ActV) (h : s.l.length ≤ 1000) : (s.does x).cs.length ≤ 5000 := by
  unfold OS.does
  split
  · unfold OS.doPut
    split <;> simp
  · split
    · exact (start_len5 s h).2
    · split
      · exact (doHear_len5 s _ _ h).2
      · split
        · exact (again_len5 s h).2
        · simp
end Go.Proofs.YtoinabapaeebfaaGreatDoor
namespace Go.Proofs.YtoinabapaeebfaaGreatDoor
open Go.RowKit Go.Shelf

set_option maxRecDepth 100000 in
set_option maxHeartbeats 8000000 in
theorem r19_Right_sess (c : List UInt8) (seq id : Int) (w : World) (hm : sessMay (sessV c seq id) = true) (hc : c.length ≤ 1000000) (hid1 : 1 ≤ id ∧ id ≤ 65535) :
    Calls Tryz.prog 50 #[.agg (sessV c seq id).vals] w fun e w' => e = .returned (.bool true) ∧ Below w.heap.size w w' := by
  unfold sessMay sessV at hm
  simp only [Bool.and_eq_true, decide_eq_true_eq] at hm
  obtain ⟨⟨hbc, hbs⟩, hbi⟩ := hm
  have CC := hid fun w => r19_client c w hc
  rw [hbc] at CC
  have CS := hid (r19_number seq)
  rw [show (decide (0 ≤ seq) && decide (seq ≤ 4611686018427387904)) = true by simp [hbs]] at CS
  have CI := hid (r19_number id)
  rw [show (decide (0 ≤ id) && decide (id ≤ 4611686018427387904)) = true by simp [hbi]] at CI
  unfold sessV RowV.vals
  have i1 : decide (1 ≤ id) = true := decide_eq_true (by omega)
  have i2 : decide (id ≤ 65535) = true := decide_eq_true (by omega)
  clear hbc hbs hbi hc hid1
  go_enter Tryz.func50, Tryz.ntmps50
  go_wp2_with (first
    | (go_at_call 104; refine (CC.out _).mono ?_; rintro e w1 ⟨rfl, hb⟩; have c2 := cellB hb (j := 2) rfl; have c3 := cellB hb (j := 3) rfl)
    | (go_at_call 105; refine (CS.out _).mono ?_; rintro e w3 ⟨rfl, rfl⟩)
    | (go_at_call 105; refine (CI.out _).mono ?_; rintro e w3 ⟨rfl, rfl⟩))
  go_ret
  exact ⟨rfl, ((Below.refl w.heap.size w).alloc (Nat.le_refl _) _).trans (hb.mono (by simp))⟩
/-- A row that a change tells. -/
theorem r19_Right_any {c : List UInt8} {r : RowV} (h : CRow c r) (hc : c.length ≤ 1000000) (w : World) :
    Calls Tryz.prog 50 #[.agg r.vals] w fun e w' => e = .returned (.bool true) ∧ Below w.heap.size w w' := by
  rcases h with ⟨h1, h2, h3, h4, h5⟩ | ⟨q, i, rfl, hm, hi⟩
  · exact r19_Right_out r w h1 h2 h3 (by rw [h4]; exact hc) h5
  · exact r19_Right_sess c q i w hm hc hi
theorem CRow.kind {c : List UInt8} {r : RowV} (h : CRow c r) : kindOK r := by
  rcases h with h | ⟨q, i, rfl, _⟩
  · exact .inr (.inr (.inl h.1))
  · exact .inl rfl
end Go.Proofs.YtoinabapaeebfaaGreatDoor
