/- append(v, u...), both rows of one's own, or none. No program in sight. · Contracts of package session (part 9): together. -/
import Derived.Test.YtoinabapaeebfaaGreatDoorPk33
import Derived.Test.YtoinabapaeebfaaGreatDoorPk30
import Derived.Test.YtoinabapaeebfaaGreatDoorPk29
set_option linter.unusedSimpArgs false
set_option linter.unusedVariables false
namespace Go.Proofs.YtoinabapaeebfaaGreatDoor
open Go.RowKit Go.Shelf

section
variable {P : Program} {w : World} {t e : TypeId} {z : Value} {size bytes : Nat}
theorem run_append_m (ty : TypeId) (E : ElemT P t e z size bytes) (hsz : 0 < size) (base : Nat) (v : Value) (n : Nat) (xs : List Value) (hown : w.ownsRow base e size v n xs)
    (a : Addr) (m c : Nat) (hm1 : 0 < m) (news : List Value) (hl : news.length = m * size) (hnews : ∀ j u, news[j]? = some u → w.cell? (a.add j) = some u) (h1 : ∀ u ∈ news, u.oneCell' = true)
    (h63 : n + m < 100000000) (hbytes : (n + m) * bytes ≤ 140737488355328) (hbase : base ≤ w.heap.size) :
    ∃ v' w', (Builtin.append_ #[t, t] ty #[v, .slice (some a) m c]).run P w = .ok v' w' ∧ w'.ownsRow base e size v' (n + m) (xs ++ news) ∧ w.grownBy w' v.ownBlock ∧ (∀ k, v'.ownBlock = some k → v.ownBlock = some k ∨ w.heap.size ≤ k) := by
  obtain ⟨i, hi, hz0, hz1, hz2⟩ := info_parts E.info
  have hm : n + m ≤ maxLen := by unfold maxLen; omega
  obtain ⟨v', w', hr, h2, h3, _⟩ := run_append_own (P := P) w base t ty e i z size bytes E.ht hi hz0 hz1 hz2 E.hzs hsz v n xs hown a m c news hl hnews h1 hm hbytes hbase
  refine ⟨v', w', hr, h2, h3, fun k hk => ?_⟩
  have hl2 : news.length = m * i.size := by rw [hz1]; exact hl
  rcases hown.2 with ⟨rfl, rfl⟩ | ⟨g, cap, cur, rfl, hbg, hg, hnc, hcm, hcs, htake⟩
  · have hr2 := run_append_nil (P := P) w t ty e i z E.ht hi hz0 a m c news hl2 hnews (by omega) (by omega) (by rw [hz2]; simp at hbytes; omega)
    rw [hr] at hr2
    cases hr2
    simp [Value.ownBlock] at hk
    exact .inr (by omega)
  · by_cases hroom : n + m ≤ cap
    · have hfit : n * i.size + news.length ≤ cur.size := by rw [hl, hcs, hz1, ← Nat.add_mul]; exact Nat.mul_le_mul_right _ hroom
      have hr2 := run_append_room (P := P) w t ty e i E.ht hi g n cap cur hg a m c news hl2 hnews h1 hroom hfit
      rw [hr] at hr2
      cases hr2
      exact .inl hk
    · have holds : ∀ j u, xs[j]? = some u → w.cell? ((⟨g, 0, none⟩ : Addr).add j) = some u := hown.cells (g := g) rfl
      have hr2 := run_append_grow (P := P) w t ty e i z E.ht hi hz0 ⟨g, 0, none⟩ n cap xs (by rw [hz1]; exact hown.1) holds a m c news hl2 hnews (by omega) (by unfold maxLen at hm; omega) (growslice_fits (by omega) (by rw [hz2]; exact hbytes))
      rw [hr] at hr2
      cases hr2
      simp [Value.ownBlock] at hk
      exact .inr (by omega)
theorem run_append_none (ty : TypeId) (E : ElemT P t e z size bytes) (base : Nat) (v : Value) (n : Nat) (xs : List Value) (hown : w.ownsRow base e size v n xs) (c : Nat) (a : Option Addr) (ha : a = none ∨ ∃ g, a = some ⟨g, 0, none⟩) :
    (Builtin.append_ #[t, t] ty #[v, .slice a 0 c]).run P w = .ok v w := by
  obtain ⟨i, hi, hz0, hz1, hz2⟩ := info_parts E.info
  have hn : ∃ b cap, v = .slice b n cap ∧ n ≤ cap := by
    rcases hown.2 with ⟨rfl, rfl⟩ | ⟨g, cap, cur, rfl, _, _, hnc, _⟩
    · exact ⟨none, 0, rfl, Nat.le_refl _⟩
    · exact ⟨_, _, rfl, hnc⟩
  obtain ⟨b, cap, rfl, hle⟩ := hn
  rcases ha with rfl | ⟨g, rfl⟩
  · cases b <;> simp [Builtin.append_, run_underlying E.ht, sizeOf, typeInfo, hi, Builtin.lenOf, hle, run_firstCells_none, storeCells]
  · have hf := run_firstCells_some (P := P) w i.size 0 ⟨g, 0, none⟩ 0 c [] (by simp) (by simp)
    cases b <;> simp [Builtin.append_, run_underlying E.ht, sizeOf, typeInfo, hi, Builtin.lenOf, hle, hf, storeCells]
/-- Whatever the second one is. -/
theorem run_append_rows (ty : TypeId) (E : ElemT P t e z size bytes) (hsz : 0 < size) (base : Nat) (v : Value) (n : Nat) (xs : List Value) (hown : w.ownsRow base e size v n xs)
    (base2 : Nat) (u : Value) (m : Nat) (ys : List Value) (hsrc : w.ownsRow base2 e size u m ys) (h1 : ∀ u ∈ ys, u.oneCell' = true)
    (h63 : n + m < 100000000) (hbytes : (n + m) * bytes ≤ 140737488355328) (hbase : base ≤ w.heap.size) :
    ∃ v' w', (Builtin.append_ #[t, t] ty #[v, u]).run P w = .ok v' w' ∧ w'.ownsRow base e size v' (n + m) (xs ++ ys) ∧ w.grownBy w' v.ownBlock ∧ (∀ k, v'.ownBlock = some k → v.ownBlock = some k ∨ w.heap.size ≤ k) := by
  rcases Nat.eq_zero_or_pos m with rfl | hm
  · have hy : ys = [] := List.eq_nil_of_length_eq_zero (by simpa using hsrc.1)
    subst hy
    obtain ⟨a, c, rfl⟩ := own_slice hsrc
    have ha : a = none ∨ ∃ g, a = some ⟨g, 0, none⟩ := by
      rcases hsrc.2 with ⟨he, _⟩ | ⟨g, cap, cur, he, _⟩
      · cases he; exact .inl rfl
      · cases he; exact .inr ⟨g, rfl⟩
    refine ⟨v, w, run_append_none ty E base v n xs hown c a ha, by simpa using hown, World.grownBy.refl _ _, fun k hk => .inl hk⟩
  · have hcells := fun g => hsrc.cells (g := g)
    rcases hsrc.2 with ⟨rfl, rfl⟩ | ⟨g, cap, cur, rfl, _⟩
    · have := hsrc.1; simp at this
      rcases this with h | h <;> omega
    · exact run_append_m ty E hsz base v n xs hown ⟨g, 0, none⟩ m cap hm ys hsrc.1 (hcells g rfl) h1 h63 hbytes hbase
theorem wp_append_rows {o : Oper} {a : Act} {K : Act → World → Prop} {Q : Exit → Act → World → Prop} (s x : Operand)
    (ho : o.op = .call { callee := .builtin .append, args := #[s, x], argTypes := #[t, t] }) (E : ElemT P t e z size bytes) (hsz : 0 < size)
    (base : Nat) (v : Value) (n : Nat) (xs : List Value) (hs : a.eval s = v) (hown : w.ownsRow base e size v n xs) (base2 : Nat) (u : Value) (m : Nat) (ys : List Value) (hx : a.eval x = u) (hsrc : w.ownsRow base2 e size u m ys) (h1 : ∀ u ∈ ys, u.oneCell' = true)
    (h63 : n + m < 100000000) (hbytes : (n + m) * bytes ≤ 140737488355328) (hbase : base ≤ w.heap.size)
    (h : ∀ v' w', w'.ownsRow base e size v' (n + m) (xs ++ ys) → w.grownBy w' v.ownBlock → (∀ k, v'.ownBlock = some k → v.ownBlock = some k ∨ w.heap.size ≤ k) → K (a.put o.dst v') w') : o.wp P a w K Q := by
  obtain ⟨v', w', hr, h2, h3, h4⟩ := run_append_rows (P := P) (w := w) o.type E hsz base v n xs hown base2 u m ys hsrc h1 h63 hbytes hbase
  unfold Oper.wp execOp
  simp only [ho, resolve, invoke, builtin, Sem.run_bind, Sem.run_pure, Result.andThen_ok, List.map_toArray, List.map_cons, List.map_nil, hs, hx, hr]
  exact h v' w' h2 h3 h4
end
end Go.Proofs.YtoinabapaeebfaaGreatDoor
namespace Go.Proofs.YtoinabapaeebfaaGreatDoor
open Go.RowKit Go.Shelf

/-- What was done, as it lies. -/
structure DV where
  vp : Value
  vc : Value
  ps : List PackV
  cs : List ChangeV
def DV.cl (d : DV) : List Value := [d.vp, d.vc]
structure DidsAt (w : World) (base g : Nat) (ds : List DV) : Prop where
  blk : Blk w g (ds.flatMap DV.cl).toArray 53
  packs : ∀ d ∈ ds, w.ownsRow base 81 24 d.vp d.ps.length (d.ps.flatMap PackV.cells)
  chgs : ∀ d ∈ ds, w.ownsRow base 115 10 d.vc d.cs.length (d.cs.flatMap ChangeV.cells)
  len : ∀ d ∈ ds, d.ps.length ≤ 1000000 ∧ d.cs.length ≤ 1000000
theorem DidsAt.below {w w' : World} {base g : Nat} {ds : List DV} (h : DidsAt w base g ds) (hb : Below w.heap.size w w') : DidsAt w' base g ds :=
  ⟨h.blk.below hb, fun d hd => ownsRow_below (h.packs d hd) hb, fun d hd => ownsRow_below (h.chgs d hd) hb, h.len⟩

structure TSt (n : Nat) (w W : World) (vp vc : Value) (ps : List PackV) (cs : List ChangeV) : Prop where
  below : Below n w W
  out : Blk W (n + 1) #[vp, vc] 53
  res : Blk W n #[.slice none 0 0, .slice none 0 0] 53
  packs : W.ownsRow n 81 24 vp ps.length (ps.flatMap PackV.cells)
  chgs : W.ownsRow n 115 10 vc cs.length (cs.flatMap ChangeV.cells)

theorem flat_len {α β : Type} (f : α → List β) (M : Nat) : ∀ (l : List α), (∀ x ∈ l, (f x).length ≤ M) → (l.flatMap f).length ≤ l.length * M
  | [], _ => by simp
  | x :: l, h => by
    rw [List.flatMap_cons, List.length_append, List.length_cons, Nat.add_mul, Nat.one_mul]
    have h1 := h x (by simp)
    have h2 := flat_len f M l (fun y hy => h y (by simp [hy]))
    omega
theorem blk_range {α : Type} (f : α → List Value) {size : Nat} (hf : ∀ x, (f x).length = size) {w : World} {g : Nat} {T : TypeId} {l : List α} (h : Blk w g (l.flatMap f).toArray T) {k : Nat} {x : α} (hx : l[k]? = some x) : w.rangeAt g (k * size) (f x) := fun j v hj => by
  have hjs : j < size := by have := (List.getElem?_eq_some_iff.1 hj).1; rw [hf] at this; exact this
  rw [h.cell (k * size + j), List.getElem?_toArray, flat_get f size hf l k j x hx hjs, hj]
theorem own_one {w : World} {base : Nat} {e : TypeId} {size : Nat} {v : Value} {n : Nat} {xs : List Value} (h : w.ownsRow base e size v n xs) : v.oneCell' = true := by
  obtain ⟨a, c, rfl⟩ := own_slice h
  rfl
theorem own_cells {w : World} {base : Nat} {e : TypeId} {size : Nat} {v : Value} {n : Nat} {xs : List Value} (h : w.ownsRow base e size v n xs) : v.cells = #[v] := by
  obtain ⟨a, c, rfl⟩ := own_slice h
  rfl
theorem DV.cllen (d : DV) : d.cl.length = 2 := rfl
set_option maxRecDepth 100000 in
set_option maxHeartbeats 2000000 in
theorem ses_together (base g : Nat) (ds : List DV) (w : World) (h : DidsAt w base g ds) (hl : ds.length ≤ 10) (hbase : base ≤ w.heap.size) :
    Calls Tryz.prog 64 #[.slice (some ⟨g, 0, none⟩) ds.length ds.length] w fun e w' => ∃ vp vc, e = .returned (.agg #[vp, vc]) ∧ Below w.heap.size w w' ∧
      w'.ownsRow w.heap.size 81 24 vp (ds.flatMap DV.ps).length ((ds.flatMap DV.ps).flatMap PackV.cells) ∧ w'.ownsRow w.heap.size 115 10 vc (ds.flatMap DV.cs).length ((ds.flatMap DV.cs).flatMap ChangeV.cells) := by
  have H := hid h
  clear h
  go_enter Tryz.func64, Tryz.ntmps64
  go_wp2
  go_loopw [8] (fun i wr => ∃ (k : Nat) (vp vc : Value), i = .int .i64 k ∧ k ≤ ds.length ∧ Hid (TSt w.heap.size w wr vp vc ((ds.take k).flatMap DV.ps) ((ds.take k).flatMap DV.cs))) (fun i _ => ds.length - (intOf i).toNat)
  case atStart => exact ⟨0, _, _, rfl, Nat.zero_le _, hid ⟨((Below.refl _ w).alloc (Nat.le_refl _) _).alloc (by simp) _, Blk.new_at _ _ _ _ (by simp), (Blk.new w _ _).alloc _, World.ownsRow_nil _ _ _ _, World.ownsRow_nil _ _ _ _⟩⟩
  case round =>
    obtain ⟨k, vp, vc, rfl, hk, hst⟩ := hrel
    rcases Nat.lt_or_ge k ds.length with hlt | hge
    · have dk : decide ((k : Int) < (ds.length : Int)) = true := decide_eq_true (by omega)
      obtain ⟨d, hd⟩ : ∃ d, ds[k]? = some d := ⟨_, List.getElem?_eq_getElem hlt⟩
      have hdm := List.mem_of_getElem? hd
      have hD := hid (H.out.below hst.out.below)
      have hrow : Hid (wr.rangeAt g (k * 2) d.cl) := hid (blk_range DV.cl DV.cllen hD.out.blk hd)
      have hln := hid (H.out.len d hdm)
      have hps : Hid (ds.take (k + 1) = ds.take k ++ [d]) := hid (by rw [List.take_add_one, hd]; rfl)
      have o1 := own_one (hD.out.packs d hdm)
      have o2 := own_one (hD.out.chgs d hdm)
      have hoo : ∀ u ∈ d.cl, u.oneCell' = true := by intro u hu; simp [DV.cl] at hu; rcases hu with rfl | rfl; exact o1; exact o2
      replace hoo := hid hoo
      have hzn : Hid (w.heap.size + 1 < wr.heap.size) := hid hst.out.out.lt
      clear o1 o2
      go_wp2_with (first
        | (refine wpList_load_mid rfl 53 _ rfl g (k * 2) rfl d.cl _ hrow.out Tryz.underlying53 rfl (by kernel_rfl) ?_)
        | (refine wpList_store_blk rfl 53 53 _ _ rfl 2 (fun w => by kernel_rfl) wr.heap.size _ #[d.vp, d.vc] rfl rfl (Blk.new wr _ _) rfl rfl hoo.out ?_; intro w2 hb2 hw2))
      have hB2 := hid (((Below.refl _ wr).alloc (Nat.le_refl _) (.cells #[.slice none 0 0, .slice none 0 0] 53)).trans (hw2.below (by simp) (by simp)))
      have hO2 := hid (hst.out.out.below hB2.out)
      refine regionQ [(11, fun w' => w'.cell? ⟨w.heap.size + 1, 0, none⟩ = some vp), (11, fun w' => w'.cell? ⟨w.heap.size + 1, 1, none⟩ = some vc), (1000, fun w' => w'.cell? ⟨wr.heap.size, 0, none⟩ = some d.vp), (1000, fun w' => w'.cell? ⟨wr.heap.size, 1, none⟩ = some d.vc)] (by kernel_rfl) ⟨hO2.out.cell 0, hO2.out.cell 1, hb2.cell 0, hb2.cell 1, trivial⟩ fun KQ hKQ => ?_
      try simp only [Act.put, List.getElem_toArray, List.getElem_cons_zero, List.getElem_cons_succ, List.setIfInBounds_toArray, List.set_cons_zero, List.set_cons_succ]
      refine takeQ 0 rfl (by kernel_rfl) rfl (by kernel_rfl) fun K hK => ?_
      simp only [List.getElem_toArray, List.getElem_cons_zero, List.getElem_cons_succ]
      go_big_quiet_op
      refine hK _ ?_
      clear hK K
      refine takeQ 2 rfl (by kernel_rfl) rfl (by kernel_rfl) fun K hK => ?_
      simp only [List.getElem_toArray, List.getElem_cons_zero, List.getElem_cons_succ]
      go_big_quiet_op
      refine hK _ ?_
      clear hK K
      refine takeQ 5 rfl (by kernel_rfl) rfl (by kernel_rfl) fun K hK => ?_
      simp only [List.getElem_toArray, List.getElem_cons_zero, List.getElem_cons_succ]
      go_big_quiet_op
      refine hK _ ?_
      clear hK K
      refine takeQ 7 rfl (by kernel_rfl) rfl (by kernel_rfl) fun K hK => ?_
      simp only [List.getElem_toArray, List.getElem_cons_zero, List.getElem_cons_succ]
      go_big_quiet_op
      refine hK _ ?_
      clear hK K
      refine loadQ 1 rfl (by kernel_rfl) (by kernel_rfl) rfl rfl 0 rfl (by kernel_rfl) _ (fun w' hf => by (go_simp <;> with_reducible rfl)) ?_
      simp only [Act.put, List.getElem_toArray, List.getElem_cons_zero, List.getElem_cons_succ, List.setIfInBounds_toArray, List.set_cons_zero, List.set_cons_succ]
      refine loadQ 3 rfl (by kernel_rfl) (by kernel_rfl) rfl rfl 2 rfl (by kernel_rfl) _ (fun w' hf => by (go_simp <;> with_reducible rfl)) ?_
      simp only [Act.put, List.getElem_toArray, List.getElem_cons_zero, List.getElem_cons_succ, List.setIfInBounds_toArray, List.set_cons_zero, List.set_cons_succ]
      refine loadQ 6 rfl (by kernel_rfl) (by kernel_rfl) rfl rfl 1 rfl (by kernel_rfl) _ (fun w' hf => by (go_simp <;> with_reducible rfl)) ?_
      simp only [Act.put, List.getElem_toArray, List.getElem_cons_zero, List.getElem_cons_succ, List.setIfInBounds_toArray, List.set_cons_zero, List.set_cons_succ]
      refine loadQ 8 rfl (by kernel_rfl) (by kernel_rfl) rfl rfl 3 rfl (by kernel_rfl) _ (fun w' hf => by (go_simp <;> with_reducible rfl)) ?_
      simp only [Act.put, List.getElem_toArray, List.getElem_cons_zero, List.getElem_cons_succ, List.setIfInBounds_toArray, List.set_cons_zero, List.set_cons_succ]
      refine stepQ 4 rfl (by kernel_rfl) (by decide) (by kernel_rfl) fun K hK => ?_
      simp only [List.getElem_toArray, List.getElem_cons_zero, List.getElem_cons_succ]
      have hB2d : Hid (Below wr.heap.size wr w2.drew) := hid hB2.out.drew
      have hD2 := hid (hD.out.below hB2d.out)
      have hP2 := hid (ownsRow_below hst.out.packs hB2d.out)
      have hC2 := hid (ownsRow_below hst.out.chgs hB2d.out)
      have hO2 : Hid (Blk w2.drew (w.heap.size + 1) #[vp, vc] 53) := hid hO2.out
      have hI2 : Hid (Blk w2.drew wr.heap.size #[d.vp, d.vc] 53) := hid hb2
      have hZ2 := hid (hst.out.res.below hB2d.out)
      have hbel2 := hid (hst.out.below.trans (hB2d.out.mono hst.out.below.size))
      have hbs : w.heap.size ≤ w2.drew.heap.size := hbel2.out.size
      have l1 := flat_len DV.ps 1000000 (ds.take k) (fun x hx => (H.out.len x (List.mem_of_mem_take hx)).1)
      have l2 := flat_len DV.cs 1000000 (ds.take k) (fun x hx => (H.out.len x (List.mem_of_mem_take hx)).2)
      have l3 := hln.out.1
      have l4 := hln.out.2
      have l5 : (ds.take k).length ≤ 10 := by simp; omega
      refine wp_append_rows _ _ rfl ePack (by decide) w.heap.size vp _ _ rfl hP2.out base d.vp _ _ rfl (hD2.out.packs d hdm) (by intro u hu; obtain ⟨p, -, hp⟩ := List.mem_flatMap.1 hu; exact p.one u hp) (by omega) (by omega) hbs fun v5 w5 r5 g5 n5 => ?_
      have hO5 := hid (Blk.keep hO2.out (g5.block _ hO2.out.lt (fun he => block_not_row hO2.out (by decide) hP2.out he)))
      have hI5 := hid (Blk.keep hI2.out (g5.block _ hI2.out.lt (fun he => block_not_row hI2.out (by decide) hP2.out he)))
      have hZ5 := hid (Blk.keep hZ2.out (g5.block _ hZ2.out.lt (fun he => block_not_row hZ2.out (by decide) hP2.out he)))
      have hC5 := hid (ownsRow_grown hC2.out (by decide) hP2.out g5)
      have hS5 := hid (ownsRow_grown (hD2.out.chgs d hdm) (by decide) (ownsRow_mono hP2.out hbase) g5)
      have hbel5 := hid (hbel2.out.grown g5 hbs (fun x hx => (hP2.out.lt x hx).1))
      have hbs5 : w.heap.size ≤ w5.heap.size := hbel5.out.size
      have r5 := hid r5
      clear g5 n5
      refine hK _ _ ⟨⟨fun _ => hO5.out.cell 0, fun _ => hO5.out.cell 1, fun _ => hI5.out.cell 0, fun _ => hI5.out.cell 1, trivial⟩, ?_⟩
      clear hK K
      try simp only [Act.put, List.getElem_toArray, List.getElem_cons_zero, List.getElem_cons_succ, List.setIfInBounds_toArray, List.set_cons_zero, List.set_cons_succ]
      refine takeQ 10 rfl (by kernel_rfl) rfl (by kernel_rfl) fun K hK => ?_
      simp only [List.getElem_toArray, List.getElem_cons_zero, List.getElem_cons_succ]
      go_big_quiet_op
      refine hK _ ?_
      clear hK K
      refine stepQ 9 rfl (by kernel_rfl) (by decide) (by kernel_rfl) fun K hK => ?_
      simp only [List.getElem_toArray, List.getElem_cons_zero, List.getElem_cons_succ]
      refine wp_append_rows _ _ rfl eChg (by decide) w.heap.size vc _ _ rfl hC5.out base d.vc _ _ rfl hS5.out (by intro u hu; obtain ⟨p, -, hp⟩ := List.mem_flatMap.1 hu; exact p.one u hp) (by omega) (by omega) hbs5 fun v6 w6 r6 g6 n6 => ?_
      have hO6 := hid (Blk.keep hO5.out (g6.block _ hO5.out.lt (fun he => block_not_row hO5.out (by decide) hC5.out he)))
      have hI6 := hid (Blk.keep hI5.out (g6.block _ hI5.out.lt (fun he => block_not_row hI5.out (by decide) hC5.out he)))
      have hZ6 := hid (Blk.keep hZ5.out (g6.block _ hZ5.out.lt (fun he => block_not_row hZ5.out (by decide) hC5.out he)))
      have hP6 := hid (ownsRow_grown r5.out (by decide) hC5.out g6)
      have hbel6 := hid (hbel5.out.grown g6 hbs5 (fun x hx => (hC5.out.lt x hx).1))
      have r6 := hid r6
      clear g6 n6
      refine hK _ _ ⟨⟨fun _ => hO6.out.cell 0, fun _ => hO6.out.cell 1, fun _ => hI6.out.cell 0, fun _ => hI6.out.cell 1, trivial⟩, ?_⟩
      clear hK K
      try simp only [Act.put, List.getElem_toArray, List.getElem_cons_zero, List.getElem_cons_succ, List.setIfInBounds_toArray, List.set_cons_zero, List.set_cons_succ]
      refine stepQ 11 rfl (by kernel_rfl) (by decide) (by kernel_rfl) fun K hK => ?_
      simp only [List.getElem_toArray, List.getElem_cons_zero, List.getElem_cons_succ]
      refine wp_store_cell 35 53 _ _ rfl (fun w => by kernel_rfl) (w.heap.size + 1) 0 _ v5 rfl rfl hO6.out (by simp) (own_cells hP6.out) (own_one hP6.out) fun w7 hO7 hw7 => ?_
      have hI7 := hid (hI6.out.wrote hw7 (by simp only [List.mem_singleton]; have := hzn.out; omega))
      have hO7 := hid hO7
      refine hK _ _ ⟨⟨fun h => absurd (show true = false from h) (by decide), fun h => absurd (show true = false from h) (by decide), fun _ => hI7.out.cell 0, fun _ => hI7.out.cell 1, trivial⟩, ?_⟩
      clear hK K
      try simp only [Act.put, List.getElem_toArray, List.getElem_cons_zero, List.getElem_cons_succ, List.setIfInBounds_toArray, List.set_cons_zero, List.set_cons_succ]
      refine takeQ 12 rfl (by kernel_rfl) rfl (by kernel_rfl) fun K hK => ?_
      simp only [List.getElem_toArray, List.getElem_cons_zero, List.getElem_cons_succ]
      go_big_quiet_op
      refine hK _ ?_
      clear hK K
      refine stepQ 13 rfl (by kernel_rfl) (by decide) (by kernel_rfl) fun K hK => ?_
      simp only [List.getElem_toArray, List.getElem_cons_zero, List.getElem_cons_succ]
      refine wp_store_cell 36 53 _ _ rfl (fun w => by kernel_rfl) (w.heap.size + 1) 1 _ v6 rfl rfl hO7.out (by simp) (own_cells r6.out) (own_one r6.out) fun w8 hO8 hw8 => ?_
      have hI8 := hid (hI7.out.wrote hw8 (by simp only [List.mem_singleton]; have := hzn.out; omega))
      have hO8 := hid hO8
      refine hK _ _ ⟨⟨fun h => absurd (show true = false from h) (by decide), fun h => absurd (show true = false from h) (by decide), fun _ => hI8.out.cell 0, fun _ => hI8.out.cell 1, trivial⟩, ?_⟩
      clear hK K
      try simp only [Act.put, List.getElem_toArray, List.getElem_cons_zero, List.getElem_cons_succ, List.setIfInBounds_toArray, List.set_cons_zero, List.set_cons_succ]
      refine doneQ (by kernel_rfl) (hKQ.out _ _ ?_)
      clear hKQ KQ
      go_wp2
      go_roundw
      case rel =>
        have hw78 := hw7.trans hw8
        have hno : ∀ {e : TypeId} {size n : Nat} {v : Value} {xs : List Value}, w6.ownsRow w.heap.size e size v n xs → e ≠ 53 → ∀ x ∈ [w.heap.size + 1], x ∉ YtoinabapaeebfaaGreatDoor.blk v := by
          intro e size n v xs hr he x hx hb
          simp at hx; subst hx
          exact block_not_row hO6.out (Ne.symm he) hr (mem_blk.1 hb).symm
        refine ⟨k + 1, v5, v6, by go_num, by omega, hid ⟨hbel6.out.trans (hw78.below hbel6.out.size (by simp)), hO8.out, hZ6.out.wrote hw78 (by simp), ?_, ?_⟩⟩
        · rw [hps.out]
          have := not_own hP6.out hw78 (hno hP6.out (by decide))
          simpa using this
        · rw [hps.out]
          have := not_own r6.out hw78 (hno r6.out (by decide))
          simpa using this
      case measure => simp [intOf]; omega
    · obtain rfl : k = ds.length := by omega
      have dk : decide ((ds.length : Int) < (ds.length : Int)) = false := by simp
      rw [List.take_length] at hst
      go_wp2_with (first
        | (refine wpList_load_blk rfl 53 _ rfl (w.heap.size + 1) #[vp, vc] rfl hst.out.out Tryz.underlying53 rfl (by kernel_rfl) ?_)
        | (refine wpList_store_blk rfl 53 53 _ _ rfl 2 (fun w => by kernel_rfl) w.heap.size _ #[vp, vc] rfl rfl hst.out.res rfl rfl (by simp [own_one hst.out.packs, own_one hst.out.chgs]) ?_; intro w7 hb7 hw7))
      refine bodyPost_ret (results_cell1 Tryz.results64 rfl (run_loadVar_blk hb7 53 Tryz.underlying53 rfl (by kernel_rfl))) rfl ?_
      refine ⟨vp, vc, rfl, hst.out.below.trans (hw7.below hst.out.below.size (by simp)), not_own hst.out.packs hw7 (fun x hx hb => ?_), not_own hst.out.chgs hw7 (fun x hx hb => ?_)⟩
      · simp at hx; subst hx
        exact block_not_row hst.out.res (by decide) hst.out.packs (mem_blk.1 hb).symm
      · simp at hx; subst hx
        exact block_not_row hst.out.res (by decide) hst.out.chgs (mem_blk.1 hb).symm
end Go.Proofs.YtoinabapaeebfaaGreatDoor
