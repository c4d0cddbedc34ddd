/- Contracts of package session (part 3): parted: rows by their kinds. -/
import Derived.Test.YtoinabapaeebfaaGreatDoorPk30
import Derived.Test.YtoinabapaeebfaaGreatDoorPk28
import Derived.Test.YtoinabapaeebfaaGreatDoorPk31
set_option linter.unusedSimpArgs false
set_option linter.unusedVariables false
namespace Go.Proofs.YtoinabapaeebfaaGreatDoor
open Go.RowKit Go.Shelf

set_option maxRecDepth 100000 in
set_option maxHeartbeats 400000 in
theorem ses_Of1 (r : RowV) (w : World) : Calls Tryz.prog 82 #[.agg r.vals] w fun e w' => e = .returned (.int .i64 r.kind) ∧ Below w.heap.size w w' := by
  unfold RowV.vals
  go_enter Tryz.func82, Tryz.ntmps82
  go_wp2
  go_ret
  exact ⟨rfl, (Below.refl _ w).alloc (Nat.le_refl _) _⟩

/-- Those of a kind. -/
def ofKind (l : List RowV) (k : Int) : List RowV := l.filter fun r => decide (r.kind = k)
theorem ofKind_take {l : List RowV} {j : Nat} {r : RowV} (hr : l[j]? = some r) (k : Int) : ofKind (l.take (j + 1)) k = if r.kind = k then ofKind (l.take j) k ++ [r] else ofKind (l.take j) k := by
  unfold ofKind
  rw [List.take_add_one, hr, List.filter_append]
  by_cases h : r.kind = k <;> simp [h]

/-- Rows lie by their kinds: a map, a row of rows for each kind. -/
structure PM (w : World) (base m : Nat) (l : List RowV) (G : Int → Option Value) : Prop where
  map : IM .i64 w m G
  rows : ∀ k, RowsAt w base ((G k).getD (.slice none 0 0)) (ofKind l k)
  no : ∀ k, ofKind l k = [] → G k = none
  apart : ∀ k k' b, k ≠ k' → ((G k).getD (.slice none 0 0)).ownBlock = some b → ((G k').getD (.slice none 0 0)).ownBlock ≠ some b
theorem PM.below {w w' : World} {base m : Nat} {l : List RowV} {G : Int → Option Value} (h : PM w base m l G) (hb : Below w.heap.size w w') : PM w' base m l G :=
  ⟨h.map.below hb, fun k => ownsRow_below (h.rows k) hb, h.no, h.apart⟩

theorem map_not_row {w : World} {b : Nat} {G : Int → Option Value} {q : IntKind} (h : IM q w b G) {e : TypeId} {base size n : Nat} {v : Value} {xs : List Value} (hr : w.ownsRow base e size v n xs) : v.ownBlock ≠ some b := by
  obtain ⟨es, clock, hb, _⟩ := h
  obtain ⟨_, ⟨rfl, _⟩ | ⟨g, cap, cur, rfl, _, hg, _⟩⟩ := hr
  · simp [Value.ownBlock]
  · intro he
    simp only [Value.ownBlock, Option.some.injEq] at he
    subst he
    rw [hb] at hg
    cases hg

theorem own_grownBy {w w' : World} {base size n : Nat} {e : TypeId} {v : Value} {xs : List Value} {o : Option Nat} (h : w.ownsRow base e size v n xs) (hg : w.grownBy w' o) (hne : ∀ b, v.ownBlock = some b → o ≠ some b) : w'.ownsRow base e size v n xs := by
  obtain ⟨hl, hx | ⟨g, cap, cur, rfl, hb, hh, hx⟩⟩ := h
  · exact ⟨hl, .inl hx⟩
  · exact ⟨hl, .inr ⟨g, cap, cur, rfl, hb, (hg.block g (Array.getElem?_eq_some_iff.1 hh).1 (fun he => hne g rfl he.symm)).trans hh, hx⟩⟩
theorem ofKind_snoc (l : List RowV) (r : RowV) (k : Int) : ofKind (l ++ [r]) k = if r.kind = k then ofKind l k ++ [r] else ofKind l k := by
  unfold ofKind
  rw [List.filter_append]
  by_cases h : r.kind = k <;> simp [h]
/-- One row more. -/
theorem PM.put {w w1 w2 : World} {base m : Nat} {l : List RowV} {G : Int → Option Value} {r : RowV} {v' : Value} (h : PM w base m l G)
    (hown : w1.ownsRow base 33 9 v' ((ofKind l r.kind).length + 1) ((ofKind l r.kind).flatMap RowV.cl ++ r.cl)) (g1 : w.grownBy w1 ((G r.kind).getD (.slice none 0 0)).ownBlock)
    (n1 : ∀ k, v'.ownBlock = some k → ((G r.kind).getD (.slice none 0 0)).ownBlock = some k ∨ w.heap.size ≤ k) (hm : m < w.heap.size)
    (him : IM .i64 w2 m (fun k => if k = r.kind then some v' else G k)) (hg2 : w1.grownBy w2 (some m)) : PM w2 base m (l ++ [r]) (fun k => if k = r.kind then some v' else G k) := by
  have hm1 : IM .i64 w1 m G := h.map.grown g1 (map_not_row h.map (h.rows r.kind))
  refine ⟨him, fun k => ?_, fun k hk => ?_, fun k k' b hkk hb hb' => ?_⟩
  · rw [ofKind_snoc]
    by_cases hk : k = r.kind
    · subst hk
      rw [if_pos rfl, if_pos rfl, Option.getD_some]
      have : w1.ownsRow base 33 9 v' (ofKind l r.kind ++ [r]).length ((ofKind l r.kind ++ [r]).flatMap RowV.cl) := by simpa using hown
      exact own_grownBy this hg2 (fun b hb he => map_not_row hm1 hown (by cases he; exact hb))
    · rw [if_neg hk, if_neg (fun e => hk e.symm)]
      refine own_grownBy (own_grownBy (h.rows k) g1 (fun b hb he => h.apart k r.kind b hk hb he)) hg2 (fun b hb he => ?_)
      cases he
      exact map_not_row h.map (h.rows k) hb
  · rw [ofKind_snoc] at hk
    by_cases hkr : r.kind = k
    · rw [if_pos hkr] at hk; simp at hk
    · rw [if_neg hkr] at hk
      try dsimp only
      show (if k = r.kind then _ else _) = _
      rw [if_neg (fun e => hkr e.symm)]
      exact h.no k hk
  · by_cases h1 : k = r.kind
    · rw [if_pos h1, Option.getD_some] at hb
      have h2 : ¬ k' = r.kind := fun e => hkk (h1.trans e.symm)
      rw [if_neg h2] at hb'
      rcases n1 b hb with h3 | h3
      · exact h.apart r.kind k' b (fun e => h2 e.symm) h3 hb'
      · have := ((h.rows k').lt b hb').2; omega
    · rw [if_neg h1] at hb
      by_cases h2 : k' = r.kind
      · rw [if_pos h2, Option.getD_some] at hb'
        rcases n1 b hb' with h3 | h3
        · exact h.apart k r.kind b h1 hb h3
        · have := ((h.rows k).lt b hb).2; omega
      · rw [if_neg h2] at hb'
        exact h.apart k k' b hkk hb hb'

/-- What stands in a round. -/
structure PSt (n b : Nat) (r : RowV) (l : List RowV) (G : Int → Option Value) (w W : World) : Prop where
  below : Below n w W
  blk : Blk W b r.vals 33
  pm : PM W n n l G
  base : n < W.heap.size
  nb : n < b
  ap : ∀ k x, ((G k).getD (.slice none 0 0)).ownBlock = some x → x < b
theorem PSt.step {n b : Nat} {r : RowV} {l : List RowV} {G : Int → Option Value} {w W W' : World} (h : PSt n b r l G w W) (hb : Below W.heap.size W W') : PSt n b r l G w W' :=
  ⟨h.below.trans (hb.mono (Nat.le_of_lt h.base)), h.blk.below hb, h.pm.below hb, Nat.lt_of_lt_of_le h.base hb.size, h.nb, h.ap⟩

set_option maxRecDepth 100000 in
set_option maxHeartbeats 1000000 in
theorem ses_parted (base : Nat) (v : Value) (l : List RowV) (w : World) (hv : RowsAt w base v l) (hl : l.length ≤ 1000000) :
    Calls Tryz.prog 81 #[v, .func (.func 82) #[] #[]] w fun e w' => ∃ m G, e = .returned (.map (some m)) ∧ PM w' w.heap.size m l G ∧ w.heap.size ≤ m ∧ Below w.heap.size w w' := by
  obtain ⟨a, cap, rfl⟩ := own_slice hv
  have C1 := hid ses_Of1
  have HV := hid hv
  clear hv
  have hmm := @run_makeMap Tryz.prog
  go_enter Tryz.func81, Tryz.ntmps81
  go_wp2
  go_loopw [11] (fun i wr => ∃ (k : Nat) (G : Int → Option Value), i = .int .i64 k ∧ k ≤ l.length ∧ Hid (PM wr w.heap.size w.heap.size (l.take k) G) ∧ Hid (Below w.heap.size w wr)) (fun i _ => l.length - (intOf i).toNat)
  case atStart => exact ⟨0, _, rfl, Nat.zero_le _, hid ⟨IM.new w, fun k => World.ownsRow_nil _ _ _ _, fun _ _ => rfl, fun _ _ _ _ h => by simp [Value.ownBlock] at h⟩, hid ((Below.refl _ w).alloc (Nat.le_refl _) _)⟩
  case round =>
    obtain ⟨k, G, rfl, hk, hpm, hbr⟩ := hrel
    rcases Nat.lt_or_ge k l.length with hlt | hge
    · have dk : decide ((k : Int) < (l.length : Int)) = true := decide_eq_true (by omega)
      obtain ⟨r, hr⟩ : ∃ r, l[k]? = some r := ⟨_, List.getElem?_eq_getElem hlt⟩
      obtain ⟨g, rfl, hcap, hrow⟩ := own_range RowV.cl RowV.cllen rfl (ownsRow_below HV.out hbr.out) hr
      have hrow := hid hrow
      have hts := hid (show l.take (k + 1) = l.take k ++ [r] by rw [List.take_add_one, hr]; rfl)
      have hr := hid hr
      go_wp2_with (first
        | (refine wpList_load_mid rfl 33 _ rfl g (k * 9) rfl r.cl _ hrow.out Tryz.underlying33 rfl (by kernel_rfl) ?_)
        | (refine wpList_store_blk rfl 33 33 _ _ rfl 9 (fun w => by kernel_rfl) wr.heap.size _ r.cl.toArray rfl rfl (Blk.new wr _ _) rfl rfl r.one ?_; intro w2 hb2 hw2))
      have hB2 := hid (((Below.refl _ wr).alloc (Nat.le_refl _) (.cells #[.int .i64 0, .string ⟨#[]⟩, .int .i64 0, .int .i64 0, .string ⟨#[]⟩, .string ⟨#[]⟩, .int .i64 0, .bool false, .int .i64 0] 33)).trans (hw2.below (by simp) (by simp)))
      have hbr2 := hid (hbr.out.trans (hB2.out.mono hbr.out.size))
      have hpm2 := hid (hpm.out.below hB2.out)
      have hb2 := hid hb2
      clear hw2 hB2
      have hst := hid (show PSt w.heap.size wr.heap.size r (l.take k) G w w2.drew from ⟨hbr2.out.drew, hb2.out.drew, hpm2.out.below (Below.refl _ _).drew, by have := hbr.out.size; have := hb2.out.lt; simp; omega, hpm.out.map.lt, fun k x hx => ((hpm.out.rows k).lt x hx).2⟩)
      refine regionQ [(1000, fun w' => Blk w' wr.heap.size r.vals 33), (12, fun w' => IM .i64 w' w.heap.size G)] (by kernel_rfl) ⟨hb2.out.drew, hst.out.pm.map, trivial⟩ fun KQ hKQ => ?_
      try simp only [Act.put, List.getElem_toArray, List.getElem_cons_zero, List.getElem_cons_succ, List.setIfInBounds_toArray, List.set_cons_zero, List.set_cons_succ]
      refine takeQ 0 rfl (by kernel_rfl) rfl (by kernel_rfl) fun K hK => ?_
      simp only [List.getElem_toArray, List.getElem_cons_zero, List.getElem_cons_succ]
      go_big_quiet_op
      refine hK _ ?_
      clear hK K
      refine takeQ 1 rfl (by kernel_rfl) rfl (by kernel_rfl) fun K hK => ?_
      simp only [List.getElem_toArray, List.getElem_cons_zero, List.getElem_cons_succ]
      go_big_quiet_op
      refine hK _ ?_
      clear hK K
      refine takeQ 4 rfl (by kernel_rfl) rfl (by kernel_rfl) fun K hK => ?_
      simp only [List.getElem_toArray, List.getElem_cons_zero, List.getElem_cons_succ]
      go_big_quiet_op
      refine hK _ ?_
      clear hK K
      refine takeQ 5 rfl (by kernel_rfl) rfl (by kernel_rfl) fun K hK => ?_
      simp only [List.getElem_toArray, List.getElem_cons_zero, List.getElem_cons_succ]
      go_big_quiet_op
      refine hK _ ?_
      clear hK K
      refine loadQ 2 rfl (by kernel_rfl) (by kernel_rfl) rfl rfl 0 rfl (by kernel_rfl) _ (fun w' hf => run_load_blk hf 33 Tryz.underlying33 rfl (by kernel_rfl)) ?_
      simp only [Act.put, List.getElem_toArray, List.getElem_cons_zero, List.getElem_cons_succ, List.setIfInBounds_toArray, List.set_cons_zero, List.set_cons_succ]
      refine loadQ 6 rfl (by kernel_rfl) (by kernel_rfl) rfl rfl 0 rfl (by kernel_rfl) _ (fun w' hf => run_load_blk hf 33 Tryz.underlying33 rfl (by kernel_rfl)) ?_
      simp only [Act.put, List.getElem_toArray, List.getElem_cons_zero, List.getElem_cons_succ, List.setIfInBounds_toArray, List.set_cons_zero, List.set_cons_succ]
      refine loadQ 9 rfl (by kernel_rfl) (by kernel_rfl) rfl rfl 0 rfl (by kernel_rfl) _ (fun w' hf => run_load_blk hf 33 Tryz.underlying33 rfl (by kernel_rfl)) ?_
      simp only [Act.put, List.getElem_toArray, List.getElem_cons_zero, List.getElem_cons_succ, List.setIfInBounds_toArray, List.set_cons_zero, List.set_cons_succ]
      clear hbr hbr2 hpm hpm2 hb2
      refine stepQ2 3 10 rfl rfl (by kernel_rfl) (by decide) (by kernel_rfl) (by kernel_rfl) (fun K hK => ?_) (fun K hK => ?_)
      · skip
        try simp only [List.getElem_toArray, List.getElem_cons_zero, List.getElem_cons_succ]
        go_simp
        refine (C1.out r _).mono ?_
        rintro e w3 ⟨rfl, hbc⟩
        replace hst := hid (hst.out.step hbc)
        clear hbc
        refine hK _ _ ⟨⟨fun _ => hst.out.blk, fun _ => hst.out.pm.map, trivial⟩, ?_⟩
        clear hK K
        try simp only [Act.put, List.getElem_toArray, List.getElem_cons_zero, List.getElem_cons_succ, List.setIfInBounds_toArray, List.set_cons_zero, List.set_cons_succ]
        refine stepQ2 7 10 rfl rfl (by kernel_rfl) (by decide) (by kernel_rfl) (by kernel_rfl) (fun K hK => ?_) (fun K hK => ?_)
        · skip
          try simp only [List.getElem_toArray, List.getElem_cons_zero, List.getElem_cons_succ]
          go_simp
          refine (C1.out r _).mono ?_
          rintro e w4 ⟨rfl, hbc⟩
          replace hst := hid (hst.out.step hbc)
          clear hbc
          refine hK _ _ ⟨⟨fun _ => hst.out.blk, fun _ => hst.out.pm.map, trivial⟩, ?_⟩
          clear hK K
          try simp only [Act.put, List.getElem_toArray, List.getElem_cons_zero, List.getElem_cons_succ, List.setIfInBounds_toArray, List.set_cons_zero, List.set_cons_succ]
          refine lookQ 8 rfl (by kernel_rfl) (by kernel_rfl) rfl rfl rfl 1 rfl (by kernel_rfl) ((G r.kind).getD (.slice none 0 0)) (fun w' hf => run_lookup_im 156 30 34 Tryz.underlying156 Tryz.underlying30 hf (.slice none 0 0) (by kernel_rfl) r.kind false) ?_
          try simp only [Act.put, List.getElem_toArray, List.getElem_cons_zero, List.getElem_cons_succ, List.setIfInBounds_toArray, List.set_cons_zero, List.set_cons_succ]
          refine stepQ 10 rfl (by kernel_rfl) (by decide) (by kernel_rfl) fun K hK => ?_
          simp only [List.getElem_toArray, List.getElem_cons_zero, List.getElem_cons_succ]
          try simp only [List.getElem_toArray, List.getElem_cons_zero, List.getElem_cons_succ]
          refine wp_slice_one _ rfl eRow (by decide) (by decide) (.agg r.cl.toArray) rfl rfl ?_
          have hgb := hid (Blk.new (w4) r.cl.toArray 33)
          replace hst := hid (hst.out.step ((Below.refl _ (w4)).alloc (Nat.le_refl _) (.cells r.cl.toArray 33)))
          refine hK _ _ ⟨⟨fun _ => hst.out.blk, fun _ => hst.out.pm.map, trivial⟩, ?_⟩
          clear hK K
          try simp only [Act.put, List.getElem_toArray, List.getElem_cons_zero, List.getElem_cons_succ, List.setIfInBounds_toArray, List.set_cons_zero, List.set_cons_succ]
          refine stepQ 11 rfl (by kernel_rfl) (by decide) (by kernel_rfl) fun K hK => ?_
          simp only [List.getElem_toArray, List.getElem_cons_zero, List.getElem_cons_succ]
          refine wp_append_grp _ _ rfl eRow (by decide) w.heap.size ((G r.kind).getD (.slice none 0 0)) _ _ rfl (hst.out.pm.rows r.kind) w4.heap.size r.cl 33 rfl hgb.out rfl r.one (by have := List.length_filter_le (fun x : RowV => decide (x.kind = r.kind)) (l.take k); unfold ofKind; simp at this ⊢; omega) (by have := List.length_filter_le (fun x : RowV => decide (x.kind = r.kind)) (l.take k); unfold ofKind; simp at this ⊢; omega) (Nat.le_of_lt hst.out.base) fun v' w5 r5 g5 n5 => ?_
          have hg5 := hid g5
          have him5 := hid (hst.out.pm.map.grown g5 (map_not_row hst.out.pm.map (hst.out.pm.rows r.kind)))
          have hbb5 := hid (Blk.keep hst.out.blk (g5.block _ hst.out.blk.lt (fun he => by have := hst.out.ap r.kind _ he.symm; omega)))
          refine hK _ _ ⟨⟨fun _ => hbb5.out, fun _ => him5.out, trivial⟩, ?_⟩
          clear hK K
          try simp only [Act.put, List.getElem_toArray, List.getElem_cons_zero, List.getElem_cons_succ, List.setIfInBounds_toArray, List.set_cons_zero, List.set_cons_succ]
          refine stepQ 12 rfl (by kernel_rfl) (by decide) (by kernel_rfl) fun K hK => ?_
          simp only [List.getElem_toArray, List.getElem_cons_zero, List.getElem_cons_succ]
          refine wp_update_im _ _ _ 156 rfl 30 34 Tryz.underlying156 Tryz.underlying30 him5.out rfl r.kind v' rfl rfl fun w6 him6 hg6 => ?_
          have hpm6 := hid (hst.out.pm.put (r := r) r5 hg5.out n5 hst.out.base him6 hg6)
          have hbr5 := hid (hst.out.below.grown hg5.out (Nat.le_of_lt hst.out.base) (fun x hx => ((hst.out.pm.rows r.kind).lt x hx).1))
          have hbr6 := hid (hbr5.out.grown hg6 (Nat.le_trans (Nat.le_of_lt hst.out.base) hg5.out.size) (fun x hx => by cases hx; exact Nat.le_refl _))
          have hbb6 := hid (Blk.keep hbb5.out (hg6.block _ hbb5.out.lt (fun he => by have := hst.out.nb; simp only [Option.some.injEq] at he; omega)))
          refine hK _ _ ⟨⟨fun _ => hbb6.out, fun h => absurd (show true = false from h) (by decide), trivial⟩, ?_⟩
          clear hK K
          try simp only [Act.put, List.getElem_toArray, List.getElem_cons_zero, List.getElem_cons_succ, List.setIfInBounds_toArray, List.set_cons_zero, List.set_cons_succ]
          refine doneQ (by kernel_rfl) (hKQ.out _ _ ?_)
          clear hKQ KQ
          go_wp2
          go_roundw
          case rel => exact ⟨k + 1, _, by go_num, by omega, by rw [hts.out]; exact hpm6, hbr6⟩
          case measure => simp [intOf]; omega
        · skip
          try simp only [List.getElem_toArray, List.getElem_cons_zero, List.getElem_cons_succ]
          refine wp_slice_one _ rfl eRow (by decide) (by decide) (.agg r.cl.toArray) rfl rfl ?_
          have hgb := hid (Blk.new (w3) r.cl.toArray 33)
          replace hst := hid (hst.out.step ((Below.refl _ (w3)).alloc (Nat.le_refl _) (.cells r.cl.toArray 33)))
          refine hK _ _ ⟨⟨fun _ => hst.out.blk, fun _ => hst.out.pm.map, trivial⟩, ?_⟩
          clear hK K
          try simp only [Act.put, List.getElem_toArray, List.getElem_cons_zero, List.getElem_cons_succ, List.setIfInBounds_toArray, List.set_cons_zero, List.set_cons_succ]
          refine stepQ 7 rfl (by kernel_rfl) (by decide) (by kernel_rfl) fun K hK => ?_
          simp only [List.getElem_toArray, List.getElem_cons_zero, List.getElem_cons_succ]
          try simp only [List.getElem_toArray, List.getElem_cons_zero, List.getElem_cons_succ]
          go_simp
          refine (C1.out r _).mono ?_
          rintro e w4 ⟨rfl, hbc⟩
          replace hst := hid (hst.out.step hbc)
          replace hgb := hid (hgb.out.below hbc)
          clear hbc
          refine hK _ _ ⟨⟨fun _ => hst.out.blk, fun _ => hst.out.pm.map, trivial⟩, ?_⟩
          clear hK K
          try simp only [Act.put, List.getElem_toArray, List.getElem_cons_zero, List.getElem_cons_succ, List.setIfInBounds_toArray, List.set_cons_zero, List.set_cons_succ]
          refine lookQ 8 rfl (by kernel_rfl) (by kernel_rfl) rfl rfl rfl 1 rfl (by kernel_rfl) ((G r.kind).getD (.slice none 0 0)) (fun w' hf => run_lookup_im 156 30 34 Tryz.underlying156 Tryz.underlying30 hf (.slice none 0 0) (by kernel_rfl) r.kind false) ?_
          try simp only [Act.put, List.getElem_toArray, List.getElem_cons_zero, List.getElem_cons_succ, List.setIfInBounds_toArray, List.set_cons_zero, List.set_cons_succ]
          refine stepQ 11 rfl (by kernel_rfl) (by decide) (by kernel_rfl) fun K hK => ?_
          simp only [List.getElem_toArray, List.getElem_cons_zero, List.getElem_cons_succ]
          refine wp_append_grp _ _ rfl eRow (by decide) w.heap.size ((G r.kind).getD (.slice none 0 0)) _ _ rfl (hst.out.pm.rows r.kind) w3.heap.size r.cl 33 rfl hgb.out rfl r.one (by have := List.length_filter_le (fun x : RowV => decide (x.kind = r.kind)) (l.take k); unfold ofKind; simp at this ⊢; omega) (by have := List.length_filter_le (fun x : RowV => decide (x.kind = r.kind)) (l.take k); unfold ofKind; simp at this ⊢; omega) (Nat.le_of_lt hst.out.base) fun v' w5 r5 g5 n5 => ?_
          have hg5 := hid g5
          have him5 := hid (hst.out.pm.map.grown g5 (map_not_row hst.out.pm.map (hst.out.pm.rows r.kind)))
          have hbb5 := hid (Blk.keep hst.out.blk (g5.block _ hst.out.blk.lt (fun he => by have := hst.out.ap r.kind _ he.symm; omega)))
          refine hK _ _ ⟨⟨fun _ => hbb5.out, fun _ => him5.out, trivial⟩, ?_⟩
          clear hK K
          try simp only [Act.put, List.getElem_toArray, List.getElem_cons_zero, List.getElem_cons_succ, List.setIfInBounds_toArray, List.set_cons_zero, List.set_cons_succ]
          refine stepQ 12 rfl (by kernel_rfl) (by decide) (by kernel_rfl) fun K hK => ?_
          simp only [List.getElem_toArray, List.getElem_cons_zero, List.getElem_cons_succ]
          refine wp_update_im _ _ _ 156 rfl 30 34 Tryz.underlying156 Tryz.underlying30 him5.out rfl r.kind v' rfl rfl fun w6 him6 hg6 => ?_
          have hpm6 := hid (hst.out.pm.put (r := r) r5 hg5.out n5 hst.out.base him6 hg6)
          have hbr5 := hid (hst.out.below.grown hg5.out (Nat.le_of_lt hst.out.base) (fun x hx => ((hst.out.pm.rows r.kind).lt x hx).1))
          have hbr6 := hid (hbr5.out.grown hg6 (Nat.le_trans (Nat.le_of_lt hst.out.base) hg5.out.size) (fun x hx => by cases hx; exact Nat.le_refl _))
          have hbb6 := hid (Blk.keep hbb5.out (hg6.block _ hbb5.out.lt (fun he => by have := hst.out.nb; simp only [Option.some.injEq] at he; omega)))
          refine hK _ _ ⟨⟨fun _ => hbb6.out, fun h => absurd (show true = false from h) (by decide), trivial⟩, ?_⟩
          clear hK K
          try simp only [Act.put, List.getElem_toArray, List.getElem_cons_zero, List.getElem_cons_succ, List.setIfInBounds_toArray, List.set_cons_zero, List.set_cons_succ]
          refine doneQ (by kernel_rfl) (hKQ.out _ _ ?_)
          clear hKQ KQ
          go_wp2
          go_roundw
          case rel => exact ⟨k + 1, _, by go_num, by omega, by rw [hts.out]; exact hpm6, hbr6⟩
          case measure => simp [intOf]; omega
      · skip
        try simp only [List.getElem_toArray, List.getElem_cons_zero, List.getElem_cons_succ]
        refine wp_slice_one _ rfl eRow (by decide) (by decide) (.agg r.cl.toArray) rfl rfl ?_
        have hgb := hid (Blk.new (w2.drew) r.cl.toArray 33)
        replace hst := hid (hst.out.step ((Below.refl _ (w2.drew)).alloc (Nat.le_refl _) (.cells r.cl.toArray 33)))
        refine hK _ _ ⟨⟨fun _ => hst.out.blk, fun _ => hst.out.pm.map, trivial⟩, ?_⟩
        clear hK K
        try simp only [Act.put, List.getElem_toArray, List.getElem_cons_zero, List.getElem_cons_succ, List.setIfInBounds_toArray, List.set_cons_zero, List.set_cons_succ]
        refine stepQ 3 rfl (by kernel_rfl) (by decide) (by kernel_rfl) fun K hK => ?_
        simp only [List.getElem_toArray, List.getElem_cons_zero, List.getElem_cons_succ]
        try simp only [List.getElem_toArray, List.getElem_cons_zero, List.getElem_cons_succ]
        go_simp
        refine (C1.out r _).mono ?_
        rintro e w3 ⟨rfl, hbc⟩
        replace hst := hid (hst.out.step hbc)
        replace hgb := hid (hgb.out.below hbc)
        clear hbc
        refine hK _ _ ⟨⟨fun _ => hst.out.blk, fun _ => hst.out.pm.map, trivial⟩, ?_⟩
        clear hK K
        try simp only [Act.put, List.getElem_toArray, List.getElem_cons_zero, List.getElem_cons_succ, List.setIfInBounds_toArray, List.set_cons_zero, List.set_cons_succ]
        refine stepQ 7 rfl (by kernel_rfl) (by decide) (by kernel_rfl) fun K hK => ?_
        simp only [List.getElem_toArray, List.getElem_cons_zero, List.getElem_cons_succ]
        try simp only [List.getElem_toArray, List.getElem_cons_zero, List.getElem_cons_succ]
        go_simp
        refine (C1.out r _).mono ?_
        rintro e w4 ⟨rfl, hbc⟩
        replace hst := hid (hst.out.step hbc)
        replace hgb := hid (hgb.out.below hbc)
        clear hbc
        refine hK _ _ ⟨⟨fun _ => hst.out.blk, fun _ => hst.out.pm.map, trivial⟩, ?_⟩
        clear hK K
        try simp only [Act.put, List.getElem_toArray, List.getElem_cons_zero, List.getElem_cons_succ, List.setIfInBounds_toArray, List.set_cons_zero, List.set_cons_succ]
        refine lookQ 8 rfl (by kernel_rfl) (by kernel_rfl) rfl rfl rfl 1 rfl (by kernel_rfl) ((G r.kind).getD (.slice none 0 0)) (fun w' hf => run_lookup_im 156 30 34 Tryz.underlying156 Tryz.underlying30 hf (.slice none 0 0) (by kernel_rfl) r.kind false) ?_
        try simp only [Act.put, List.getElem_toArray, List.getElem_cons_zero, List.getElem_cons_succ, List.setIfInBounds_toArray, List.set_cons_zero, List.set_cons_succ]
        refine stepQ 11 rfl (by kernel_rfl) (by decide) (by kernel_rfl) fun K hK => ?_
        simp only [List.getElem_toArray, List.getElem_cons_zero, List.getElem_cons_succ]
        refine wp_append_grp _ _ rfl eRow (by decide) w.heap.size ((G r.kind).getD (.slice none 0 0)) _ _ rfl (hst.out.pm.rows r.kind) w2.heap.size r.cl 33 rfl hgb.out rfl r.one (by have := List.length_filter_le (fun x : RowV => decide (x.kind = r.kind)) (l.take k); unfold ofKind; simp at this ⊢; omega) (by have := List.length_filter_le (fun x : RowV => decide (x.kind = r.kind)) (l.take k); unfold ofKind; simp at this ⊢; omega) (Nat.le_of_lt hst.out.base) fun v' w5 r5 g5 n5 => ?_
        have hg5 := hid g5
        have him5 := hid (hst.out.pm.map.grown g5 (map_not_row hst.out.pm.map (hst.out.pm.rows r.kind)))
        have hbb5 := hid (Blk.keep hst.out.blk (g5.block _ hst.out.blk.lt (fun he => by have := hst.out.ap r.kind _ he.symm; omega)))
        refine hK _ _ ⟨⟨fun _ => hbb5.out, fun _ => him5.out, trivial⟩, ?_⟩
        clear hK K
        try simp only [Act.put, List.getElem_toArray, List.getElem_cons_zero, List.getElem_cons_succ, List.setIfInBounds_toArray, List.set_cons_zero, List.set_cons_succ]
        refine stepQ 12 rfl (by kernel_rfl) (by decide) (by kernel_rfl) fun K hK => ?_
        simp only [List.getElem_toArray, List.getElem_cons_zero, List.getElem_cons_succ]
        refine wp_update_im _ _ _ 156 rfl 30 34 Tryz.underlying156 Tryz.underlying30 him5.out rfl r.kind v' rfl rfl fun w6 him6 hg6 => ?_
        have hpm6 := hid (hst.out.pm.put (r := r) r5 hg5.out n5 hst.out.base him6 hg6)
        have hbr5 := hid (hst.out.below.grown hg5.out (Nat.le_of_lt hst.out.base) (fun x hx => ((hst.out.pm.rows r.kind).lt x hx).1))
        have hbr6 := hid (hbr5.out.grown hg6 (Nat.le_trans (Nat.le_of_lt hst.out.base) hg5.out.size) (fun x hx => by cases hx; exact Nat.le_refl _))
        have hbb6 := hid (Blk.keep hbb5.out (hg6.block _ hbb5.out.lt (fun he => by have := hst.out.nb; simp only [Option.some.injEq] at he; omega)))
        refine hK _ _ ⟨⟨fun _ => hbb6.out, fun h => absurd (show true = false from h) (by decide), trivial⟩, ?_⟩
        clear hK K
        try simp only [Act.put, List.getElem_toArray, List.getElem_cons_zero, List.getElem_cons_succ, List.setIfInBounds_toArray, List.set_cons_zero, List.set_cons_succ]
        refine doneQ (by kernel_rfl) (hKQ.out _ _ ?_)
        clear hKQ KQ
        go_wp2
        go_roundw
        case rel => exact ⟨k + 1, _, by go_num, by omega, by rw [hts.out]; exact hpm6, hbr6⟩
        case measure => simp [intOf]; omega
    · obtain rfl : k = l.length := by omega
      have dk : decide ((l.length : Int) < (l.length : Int)) = false := by simp
      rw [List.take_length] at hpm
      go_wp2
      go_ret
      exact ⟨_, _, rfl, hpm.out, Nat.le_refl _, hbr.out⟩
end Go.Proofs.YtoinabapaeebfaaGreatDoor
