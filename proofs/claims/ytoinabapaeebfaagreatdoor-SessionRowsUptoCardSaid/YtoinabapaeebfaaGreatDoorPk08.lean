/- Parts of the proof of SessionRows: contracts of functions that it reaches, and plain lemmas. No condition of their own. -/
import Derived.Test.YtoinabapaeebfaaGreatDoorPk07
import Derived.Handy
import Derived.Test.YtoinabapaeebfaaGreatDoorPk06
import Derived.BigRegion
set_option linter.unusedSimpArgs false
set_option linter.unusedVariables false
set_option maxRecDepth 100000
set_option maxHeartbeats 8000000
namespace Go.Proofs.YtoinabapaeebfaaGreatDoor
open Go.RowKit Go.Shelf
section
theorem own_slice {w : World} {base : Nat} {e : TypeId} {size : Nat} {v : Value} {n : Nat} {xs : List Value} (h : w.ownsRow base e size v n xs) : ∃ a cap, v = .slice a n cap := by
 obtain ⟨_, ⟨rfl, rfl⟩ | ⟨g, cap, cur, rfl, _⟩⟩ := h
 ·exact ⟨_, _, rfl⟩
 ·exact ⟨_, _, rfl⟩
theorem ChangeV.one (c : ChangeV) : ∀ u ∈ c.cells, u.oneCell' = true := by simp [ChangeV.cells, RowV.vals, Value.oneCell']
theorem PackV.one (c : PackV) : ∀ u ∈ c.cells, u.oneCell' = true := by simp [PackV.cells, Value.oneCell']
theorem out_none {w : World} {B : Nat} {L : Lay} {s : OS} {ps : List PackV} {cs : List ChangeV} (h : OB w B L s ps cs) :
  Calls Tryz.prog 58 #[.pointer (some ⟨L.p, 0, none⟩)] w fun e w' => e = .returned (.bool false) /\ w = w' := by
 have c0 : w.cell? ⟨L.p, 0, none⟩ = some (.pointer (some ⟨L.ib, 0, none⟩)) := h.box.cell 0
 go_enter Tryz.func58, Tryz.ntmps58
 go_wp2
 go_ret
 simp
theorem out_changes {w : World} {B : Nat} {L : Lay} {s : OS} {ps : List PackV} {cs : List ChangeV} (h : OB w B L s ps cs) (c : ChangeV) (g : Nat) (hg : Blk w g c.cells.toArray 115) (hn : cs.length < 1000000) :
  Calls Tryz.prog 86 #[.pointer (some ⟨L.p, 0, none⟩), .slice (some ⟨g, 0, none⟩) 1 1] w fun e w' => e = .returned (.tuple #[]) /\ ∃ v, OB w' B { L with vc := v } s ps (cs ++ [c]) /\ Stp L.foot { L with vc := v : Lay }.foot w w' := by
 obtain ⟨p, ib, sb, vl, vp, vc, rb, W⟩ := L
 have c8 : w.cell? ⟨p, 8, none⟩ = some vc := h.box.cell 8
 have f8 := h.box.frozen 8
 dsimp only at *
 have HR := hid h.chgs;dsimp only at HR
 go_enter Tryz.func86, Tryz.ntmps86
 go_wp2_with (at_builtin; refine append_grp rfl _ _ rfl eChg (by decide) B vc cs.length (cs.flatMap ChangeV.cells) rfl HR.out g c.cells 115 rfl hg rfl c.one (by omega) (by omega) h.base ?_; intro v' w1 r1 g1 n1; have hw1 : WT 115 w w1 := WT.row HR.out g1; have b1 := h.box.wt hw1 (by decide); have f1 := b1.frozen 8; have k1 := b1.cell 8; dsimp only at f1 k1 b1; obtain ⟨a', cap', rfl⟩ := own_slice r1)
 go_end0
 have hw2 : WT 123 w1 (w1.setCell ⟨p, 8, none⟩ (.slice a' (cs.length + 1) cap')) := WT.set b1 8 _
 have hst : Wrote (Lay.foot ⟨p, ib, sb, vl, vp, vc, rb, W⟩) w (w1.setCell ⟨p, 8, none⟩ (.slice a' (cs.length + 1) cap')) := by
  refine (Wrote.of_grown g1 (fun k hk => ?_)).trans (Wrote.setCell w1 _ (by simp [Lay.foot]) _)
  simp [Lay.foot, mem_blk, hk]
 have hsub : ∀ x ∈ Lay.foot { p := p, ib := ib, sb := sb, vl := vl, vp := vp, rb := rb, W := W, vc := .slice a' (cs.length + 1) cap' }, x ∈ Lay.foot ⟨p, ib, sb, vl, vp, vc, rb, W⟩ \/ w.heap.size <= x := by
  intro x hx
  simp only [Lay.foot, List.mem_cons, List.mem_append, mem_blk] at hx ⊢
  have := n1 x
  rcases hx with hx | hx | hx | ((hx | hx) | hx) | hx
  all_goals first | (simp [hx]; done) | (rcases this hx with h1 | h1 <;> simp [h1])
 refine ⟨rfl, .slice a' (cs.length + 1) cap', ⟨Nat.le_trans h.base hst.size, b1.set 8 _, ⟨(h.inb.box.wt hw1 (by decide)).wt hw2 (by decide), (h.inb.set.wt hw1 (by decide)).wt hw2 (by decide)⟩, h.set, row_wt (row_wt h.rows hw1 (by decide)) hw2 (by decide), h.len, fun i b r h1 h2 => ((h.cells i b r h1 h2).wt hw1 (by decide)).wt hw2 (by decide), h.nodup, row_wt (row_wt h.packs hw1 (by decide)) hw2 (by decide), by simpa using row_wt r1 hw2 (by decide), h.tz.wrote hst h.gg, ?_, h.ok⟩, hst, hsub⟩
 intro hx
 rcases hsub _ hx with h1 | h1
 ·exact h.gg h1
 ·have := h.tz.lt
  omega
theorem out_says {w : World} {B : Nat} {L : Lay} {s : OS} {ps : List PackV} {cs : List ChangeV} (h : OB w B L s ps cs) (c : PackV) (g : Nat) (hg : Blk w g c.cells.toArray 81) (hn : ps.length < 1000000) :
  Calls Tryz.prog 101 #[.pointer (some ⟨L.p, 0, none⟩), .slice (some ⟨g, 0, none⟩) 1 1] w fun e w' => e = .returned (.tuple #[]) /\ ∃ v, OB w' B { L with vp := v } s (ps ++ [c]) cs /\ Stp L.foot { L with vp := v : Lay }.foot w w' := by
 obtain ⟨p, ib, sb, vl, vp, vc, rb, W⟩ := L
 have c8 : w.cell? ⟨p, 7, none⟩ = some vp := h.box.cell 7
 have f8 := h.box.frozen 7
 dsimp only at *
 have HR := hid h.packs;dsimp only at HR
 go_enter Tryz.func101, Tryz.ntmps101
 go_wp2_with (at_builtin; refine append_grp rfl _ _ rfl ePack (by decide) B vp ps.length (ps.flatMap PackV.cells) rfl HR.out g c.cells 81 rfl hg rfl c.one (by omega) (by omega) h.base ?_; intro v' w1 r1 g1 n1; have hw1 : WT 81 w w1 := WT.row HR.out g1; have b1 := h.box.wt hw1 (by decide); have f1 := b1.frozen 7; have k1 := b1.cell 7; dsimp only at f1 k1 b1; obtain ⟨a', cap', rfl⟩ := own_slice r1)
 go_end0
 have hw2 : WT 123 w1 (w1.setCell ⟨p, 7, none⟩ (.slice a' (ps.length + 1) cap')) := WT.set b1 7 _
 have hst : Wrote (Lay.foot ⟨p, ib, sb, vl, vp, vc, rb, W⟩) w (w1.setCell ⟨p, 7, none⟩ (.slice a' (ps.length + 1) cap')) := by
  refine (Wrote.of_grown g1 (fun k hk => ?_)).trans (Wrote.setCell w1 _ (by simp [Lay.foot]) _)
  simp [Lay.foot, mem_blk, hk]
 have hsub : ∀ x ∈ Lay.foot { p := p, ib := ib, sb := sb, vl := vl, vc := vc, rb := rb, W := W, vp := .slice a' (ps.length + 1) cap' }, x ∈ Lay.foot ⟨p, ib, sb, vl, vp, vc, rb, W⟩ \/ w.heap.size <= x := by
  intro x hx
  simp only [Lay.foot, List.mem_cons, List.mem_append, mem_blk] at hx ⊢
  have := n1 x
  rcases hx with hx | hx | hx | ((hx | hx) | hx) | hx
  all_goals first | (simp [hx]; done) | (rcases this hx with h1 | h1 <;> simp [h1])
 refine ⟨rfl, .slice a' (ps.length + 1) cap', ⟨Nat.le_trans h.base hst.size, b1.set 7 _, ⟨(h.inb.box.wt hw1 (by decide)).wt hw2 (by decide), (h.inb.set.wt hw1 (by decide)).wt hw2 (by decide)⟩, h.set, row_wt (row_wt h.rows hw1 (by decide)) hw2 (by decide), h.len, fun i b r h1 h2 => ((h.cells i b r h1 h2).wt hw1 (by decide)).wt hw2 (by decide), h.nodup, by simpa using row_wt r1 hw2 (by decide), row_wt (row_wt h.chgs hw1 (by decide)) hw2 (by decide), h.tz.wrote hst h.gg, ?_, h.ok⟩, hst, hsub⟩
 intro hx
 rcases hsub _ hx with h1 | h1
 ·exact h.gg h1
 ·have := h.tz.lt
  omega
end
section
theorem bk_OutC_doneend1 {P : Prop} (h : P := by
 have hcl := (hO1.alloc (.cells #[.slice ap ps.length cp, .slice ac cs.length cc] 53)).clear
 obtain ⟨hob, hstp, hrp, hrc⟩ := hcl
 dsimp only at hob hstp hrp hrc
 have hrf := (((hbl4.alloc (.cells #[.slice ap ps.length cp, .slice ac cs.length cc] 53)).set_ne ⟨p, 7, none⟩ hne (.slice none 0 0)).set_ne ⟨p, 8, none⟩ hne (.slice none 0 0))
 have hwf := fun v0 v1 => (Wrote.setCell (M := [w.heap.size + 1]) (((w1.alloc (.cells #[.slice ap ps.length cp, .slice ac cs.length cc] 53)).setCell ⟨p, 7, none⟩ (.slice none 0 0)).setCell ⟨p, 8, none⟩ (.slice none 0 0)) ⟨w.heap.size + 1, 0, none⟩ (by simp) v0).trans (Wrote.setCell _ ⟨w.heap.size + 1, 1, none⟩ (by simp) v1)
 refine bodyPost_gen (fun W' => W'.cell? ⟨w.heap.size + 1, 0, none⟩ = some (.slice ap ps.length cp) /\ W'.cell? ⟨w.heap.size + 1, 1, none⟩ = some (.slice ac cs.length cc) /\ Wrote [w.heap.size + 1] (((w1.alloc (.cells #[.slice ap ps.length cp, .slice ac cs.length cc] 53)).setCell ⟨p, 7, none⟩ (.slice none 0 0)).setCell ⟨p, 8, none⟩ (.slice none 0 0)) W') ⟨((hrf.set 0 _).set 1 _).cell 0, ((hrf.set 0 _).set 1 _).cell 1, hwf _ _⟩ ?_
 rintro W' ⟨e0, e1', hW⟩
 clear hwf hrf;refine bodyPost_ret (v := .agg #[.slice ap ps.length cp, .slice ac cs.length cc]) (by simp [results, Tryz.results87, go_sem, e0, e1']) rfl ?_
 have hnf : ∀ x ∈ [w.heap.size + 1], x ∉ (Lay.nil ⟨p, ib, sb, vl, .slice ap ps.length cp, .slice ac cs.length cc, rb, W⟩).foot := by
  intro x hx hf
  simp at hx
  subst hx;have h1 := (hO.clear.2.1.sub _ hf)
  rcases h1 with h1 | h1
  ·have := hO.lt _ h1; omega
  ·have := (hO.clear.1 0 (Nat.zero_le _)).lt _ hf
   simp at this
   omega
 have hnb : ∀ {e : TypeId} {size n : Nat} {v : Value} {xs : List Value}, World.ownsRow (((w1.alloc (.cells #[.slice ap ps.length cp, .slice ac cs.length cc] 53)).setCell ⟨p, 7, none⟩ (.slice none 0 0)).setCell ⟨p, 8, none⟩ (.slice none 0 0)) B e size v n xs -> e ≠ 53 -> ∀ x ∈ [w.heap.size + 1], x ∉ blk v := by
  intro e size n v xs hr he x hx hb
  simp at hx
  subst hx;have := block_not_row (((hbl4.alloc (.cells #[.slice ap ps.length cp, .slice ac cs.length cc] 53)).set_ne ⟨p, 7, none⟩ hne (.slice none 0 0)).set_ne ⟨p, 8, none⟩ hne (.slice none 0 0)) (Ne.symm he) hr
  exact this (mem_blk.1 hb).symm
 have hg1 : 1 ∉ [w.heap.size + 1] := by have := hO.tz.lt; simp only [List.mem_singleton]; omega
 have hsub : Stp (Lay.foot ⟨p, ib, sb, vl, .slice ap ps.length cp, .slice ac cs.length cc, rb, W⟩) (Lay.nil ⟨p, ib, sb, vl, .slice ap ps.length cp, .slice ac cs.length cc, rb, W⟩).foot w W' :=
  ((hS1.trans (Stp.below ((Below.refl _ _).alloc (Nat.le_refl _) _))).trans hstp).fresh hW (by simp)
 refine ⟨_, _, cs ++ X, rfl, rfl, fun B' hB' => ((hob 0 (Nat.zero_le _)).out hW hnf hg1).rebase hB', not_own hrp hW (hnb hrp (by decide)), ?_, hsub⟩
 have := not_own hrc hW (hnb hrc (by decide))
 simpa [hX.out] using this) : P := h
theorem bk_OutC_doneend2 {P : Prop} (h : P := by
 have hcl := (hO3.alloc (.cells #[.slice ap ps.length cp, .slice a3 (cs.length+1) c3] 53)).clear
 obtain ⟨hob, hstp, hrp, hrc⟩ := hcl
 dsimp only at hob hstp hrp hrc
 have hrf := (((hR.out.alloc (.cells #[.slice ap ps.length cp, .slice a3 (cs.length+1) c3] 53)).set_ne ⟨p, 7, none⟩ hne (.slice none 0 0)).set_ne ⟨p, 8, none⟩ hne (.slice none 0 0))
 have hwf := fun v0 v1 => (Wrote.setCell (M := [w.heap.size + 1]) (((w3.alloc (.cells #[.slice ap ps.length cp, .slice a3 (cs.length+1) c3] 53)).setCell ⟨p, 7, none⟩ (.slice none 0 0)).setCell ⟨p, 8, none⟩ (.slice none 0 0)) ⟨w.heap.size + 1, 0, none⟩ (by simp) v0).trans (Wrote.setCell _ ⟨w.heap.size + 1, 1, none⟩ (by simp) v1)
 refine bodyPost_gen (fun W' => W'.cell? ⟨w.heap.size + 1, 0, none⟩ = some (.slice ap ps.length cp) /\ W'.cell? ⟨w.heap.size + 1, 1, none⟩ = some (.slice a3 (cs.length+1) c3) /\ Wrote [w.heap.size + 1] (((w3.alloc (.cells #[.slice ap ps.length cp, .slice a3 (cs.length+1) c3] 53)).setCell ⟨p, 7, none⟩ (.slice none 0 0)).setCell ⟨p, 8, none⟩ (.slice none 0 0)) W') ⟨((hrf.set 0 _).set 1 _).cell 0, ((hrf.set 0 _).set 1 _).cell 1, hwf _ _⟩ ?_
 rintro W' ⟨e0, e1', hW⟩
 clear hwf hrf;refine bodyPost_ret (v := .agg #[.slice ap ps.length cp, .slice a3 (cs.length+1) c3]) (by simp [results, Tryz.results87, go_sem, e0, e1']) rfl ?_
 have hnf : ∀ x ∈ [w.heap.size + 1], x ∉ (Lay.nil ⟨p, ib, sb, vl, .slice ap ps.length cp, .slice ac cs.length cc, rb, W⟩).foot := by
  intro x hx hf
  simp at hx
  subst hx;have h1 := (hO.clear.2.1.sub _ hf)
  rcases h1 with h1 | h1
  ·have := hO.lt _ h1; omega
  ·have := (hO.clear.1 0 (Nat.zero_le _)).lt _ hf
   simp at this
   omega
 have hnb : ∀ {e : TypeId} {size n : Nat} {v : Value} {xs : List Value}, World.ownsRow (((w3.alloc (.cells #[.slice ap ps.length cp, .slice a3 (cs.length+1) c3] 53)).setCell ⟨p, 7, none⟩ (.slice none 0 0)).setCell ⟨p, 8, none⟩ (.slice none 0 0)) B e size v n xs -> e ≠ 53 -> ∀ x ∈ [w.heap.size + 1], x ∉ blk v := by
  intro e size n v xs hr he x hx hb
  simp at hx
  subst hx;have := block_not_row (((hR.out.alloc (.cells #[.slice ap ps.length cp, .slice a3 (cs.length+1) c3] 53)).set_ne ⟨p, 7, none⟩ hne (.slice none 0 0)).set_ne ⟨p, 8, none⟩ hne (.slice none 0 0)) (Ne.symm he) hr
  exact this (mem_blk.1 hb).symm
 have hg1 : 1 ∉ [w.heap.size + 1] := by have := hO.tz.lt; simp only [List.mem_singleton]; omega
 have hsub : Stp (Lay.foot ⟨p, ib, sb, vl, .slice ap ps.length cp, .slice ac cs.length cc, rb, W⟩) (Lay.nil ⟨p, ib, sb, vl, .slice ap ps.length cp, .slice ac cs.length cc, rb, W⟩).foot w W' :=
  ((hS3.trans (Stp.below ((Below.refl _ _).alloc (Nat.le_refl _) _))).trans hstp).fresh hW (by simp)
 refine ⟨_, _, cs ++ X, rfl, rfl, fun B' hB' => ((hob 0 (Nat.zero_le _)).out hW hnf hg1).rebase hB', not_own hrp hW (hnb hrp (by decide)), ?_, hsub⟩
 have := not_own hrc hW (hnb hrc (by decide))
 simpa [hX.out] using this) : P := h
def OS.session (s : OS) : RowV := ⟨1, s.client, s.seq, s.id, [], [], 0, false, 0⟩
theorem out_Session {w : World} {B : Nat} {L : Lay} {s : OS} {ps : List PackV} {cs : List ChangeV} (h : OB w B L s ps cs) :
  Calls Tryz.prog 14 #[.pointer (some ⟨L.p, 0, none⟩)] w fun e w' => e = .returned (.agg s.session.vals) /\ Below w.heap.size w w' := by
 have CN := hid fun (w1 : World) (hb : Below w.heap.size w w1) => out_none (h.below hb)
 have c1 : w.cell? ⟨L.p, 1, none⟩ = some (.string ⟨s.client.toArray⟩) := h.box.cell 1
 have c4 : w.cell? ⟨L.p, 4, none⟩ = some (.int .i64 s.seq) := h.box.cell 4
 have c5 : w.cell? ⟨L.p, 5, none⟩ = some (.int .i64 s.id) := h.box.cell 5
 have a1 := fun o => cell_alloc c1 o
 have a4 := fun o => cell_alloc c4 o
 have a5 := fun o => cell_alloc c5 o
 go_enter Tryz.func14, Tryz.ntmps14
 go_wp2_with (go_at_call 58; refine (CN.out _ ((Below.refl _ w).alloc (Nat.le_refl _) _)).mono ?_; rintro e w1 ⟨rfl, rfl⟩)
 go_region
 go_wp2
 go_returns
 exact ⟨rfl, ((Below.refl _ w).alloc (Nat.le_refl _) _).drew⟩
def Lay.nil (L : Lay) : Lay := { L with vp := .slice none 0 0, vc := .slice none 0 0 }
theorem foot_nil_not {w : World} {B : Nat} {L : Lay} {s : OS} {ps : List PackV} {cs : List ChangeV} (h : OB w B L s ps cs) (hp : L.vp = .slice none 0 0) (hc : L.vc = .slice none 0 0) {e : TypeId} {base size n : Nat} {v : Value} {xs : List Value} (hr : w.ownsRow base e size v n xs)
  (ht : e = 81 \/ e = 115) : ∀ x ∈ L.foot, x ∉ blk v := by
 intro x hx hv
 obtain ⟨_, ⟨rfl, rfl⟩ | ⟨g, cap, cur, rfl, _, hg, _⟩⟩ := hr
 ·simp [blk, Value.ownBlock] at hv
 ·have hxg : x = g := by simp [blk, Value.ownBlock] at hv; exact hv
  subst hxg;have hne : ∀ {cs' : Array Value} {T : TypeId}, Blk w x cs' T -> T ≠ e -> False := fun hb hT => by unfold Blk at hb; rw [hg] at hb; cases hb; exact hT rfl
  simp only [Lay.foot, hp, hc, List.mem_cons, List.mem_append, mem_blk] at hx
  rcases hx with hx | hx | hx | ((hx | hx) | hx) | hx
  ·exact hne (hx ▸ h.box) (by rcases ht with rfl | rfl <;> decide)
  ·exact hne (hx ▸ h.inb.box) (by rcases ht with rfl | rfl <;> decide)
  ·exact hne (hx ▸ h.inb.set) (by rcases ht with rfl | rfl <;> decide)
  ·obtain ⟨_, ⟨he, _⟩ | ⟨g2, cap2, cur2, he, _, hg2, _⟩⟩ := h.rows
   ·rw [he] at hx; simp [Value.ownBlock] at hx
   ·rw [he] at hx
    have : g2 = x := by simpa [Value.ownBlock] using hx
    subst this;exact hne (cs' := cur2) (T := 126) hg2 (by rcases ht with rfl | rfl <;> decide)
  ·simp [Value.ownBlock] at hx
  ·simp [Value.ownBlock] at hx
  ·obtain ⟨i, hi⟩ := List.getElem?_of_mem hx
   have hlt := (List.getElem?_eq_some_iff.1 hi).1
   rw [h.len] at hlt
   exact hne (h.cells i x _ hi (List.getElem?_eq_getElem hlt)) (by rcases ht with rfl | rfl <;> decide)
theorem not_own {w : World} {base : Nat} {e : TypeId} {size : Nat} {v : Value} {n : Nat} {xs : List Value} (h : w.ownsRow base e size v n xs) {M : List Nat} {w' : World} (hw : Wrote M w w') (hM : ∀ x ∈ M, x ∉ blk v) : w'.ownsRow base e size v n xs := by
 obtain ⟨hl, hx | ⟨g, cap, cur, rfl, hg, hh, hx⟩⟩ := h
 ·exact ⟨hl, .inl hx⟩
 ·exact ⟨hl, .inr ⟨g, cap, cur, rfl, hg, (hw.block g (Array.getElem?_eq_some_iff.1 hh).1 (fun hm => hM g hm (by simp [blk, Value.ownBlock]))).trans hh, hx⟩⟩
theorem OB.out {w w' : World} {B : Nat} {L : Lay} {s : OS} {ps : List PackV} {cs : List ChangeV} (h : OB w B L s ps cs) {M : List Nat} (hw : Wrote M w w') (hM : ∀ x ∈ M, x ∉ L.foot) (hg : 1 ∉ M) : OB w' B L s ps cs := by
 have hm : ∀ x, x ∈ L.foot -> x ∉ M := fun x hx hm => hM x hm hx
 refine ⟨Nat.le_trans h.base hw.size, h.box.wrote hw (hm _ (by simp [Lay.foot])), h.inb.wrote hw (hm _ (by simp [Lay.foot])) (hm _ (by simp [Lay.foot])), h.set, not_own h.rows hw (fun x hx hb => hM x hx (by simp [Lay.foot, hb])), h.len, fun i b r h1 h2 => (h.cells i b r h1 h2).wrote hw (hm _ ?_), h.nodup,
  not_own h.packs hw (fun x hx hb => hM x hx (by simp [Lay.foot, hb])), not_own h.chgs hw (fun x hx hb => hM x hx (by simp [Lay.foot, hb])), h.tz.wrote hw hg, h.gg, h.ok⟩
 have := List.mem_of_getElem? h1
 simp [Lay.foot, this]
theorem OB.clear {w : World} {B : Nat} {L : Lay} {s : OS} {ps : List PackV} {cs : List ChangeV} (h : OB w B L s ps cs) :
  (∀ B', B' <= w.heap.size -> OB ((w.setCell ⟨L.p, 7, none⟩ (.slice none 0 0)).setCell ⟨L.p, 8, none⟩ (.slice none 0 0)) B' L.nil s [] []) /\
  Stp L.foot L.nil.foot w ((w.setCell ⟨L.p, 7, none⟩ (.slice none 0 0)).setCell ⟨L.p, 8, none⟩ (.slice none 0 0)) /\
  ((w.setCell ⟨L.p, 7, none⟩ (.slice none 0 0)).setCell ⟨L.p, 8, none⟩ (.slice none 0 0)).ownsRow B 81 24 L.vp ps.length (ps.flatMap PackV.cells) /\
  ((w.setCell ⟨L.p, 7, none⟩ (.slice none 0 0)).setCell ⟨L.p, 8, none⟩ (.slice none 0 0)).ownsRow B 115 10 L.vc cs.length (cs.flatMap ChangeV.cells) := by
 obtain ⟨p, ib, sb, vl, vp, vc, rb, W⟩ := L
 dsimp only
 have b1 := h.box.set 7 (.slice none 0 0)
 have b2 := b1.set 8 (.slice none 0 0)
 have t1 := WT.set h.box 7 (.slice none 0 0)
 have t2 := WT.set b1 8 (.slice none 0 0)
 dsimp only at b1 b2 t1 t2
 have hp : p ∈ (Lay.foot ⟨p, ib, sb, vl, vp, vc, rb, W⟩) := by simp [Lay.foot]
 have hst : Wrote (Lay.foot ⟨p, ib, sb, vl, vp, vc, rb, W⟩) w ((w.setCell ⟨p, 7, none⟩ (.slice none 0 0)).setCell ⟨p, 8, none⟩ (.slice none 0 0)) := (Wrote.setCell w ⟨p, 7, none⟩ hp _).trans (Wrote.setCell _ ⟨p, 8, none⟩ hp _)
 have hsub : ∀ x ∈ (Lay.nil ⟨p, ib, sb, vl, vp, vc, rb, W⟩).foot, x ∈ (Lay.foot ⟨p, ib, sb, vl, vp, vc, rb, W⟩) := by
  intro x hx
  simp [Lay.nil, Lay.foot, blk, Value.ownBlock] at hx ⊢
  rcases hx with hx | hx | hx | hx | hx <;> simp [hx]
 refine ⟨fun B' hB' => ⟨Nat.le_trans hB' hst.size, b2, ⟨(h.inb.box.wt t1 (by decide)).wt t2 (by decide), (h.inb.set.wt t1 (by decide)).wt t2 (by decide)⟩, h.set, row_wt (row_wt h.rows t1 (by decide)) t2 (by decide), h.len, fun i b r h1 h2 => ((h.cells i b r h1 h2).wt t1 (by decide)).wt t2 (by decide), h.nodup, World.ownsRow_nil _ _ _ _, World.ownsRow_nil _ _ _ _, h.tz.wrote hst h.gg, fun hx => h.gg (hsub _ hx), h.ok⟩,
  ⟨hst, fun x hx => .inl (hsub x hx)⟩, row_wt (row_wt h.packs t1 (by decide)) t2 (by decide), row_wt (row_wt h.chgs t1 (by decide)) t2 (by decide)⟩
theorem OB.rebase {w : World} {B : Nat} {L : Lay} {s : OS} (h : OB w B L.nil s [] []) {B' : Nat} (hB : B' <= w.heap.size) : OB w B' L.nil s [] [] :=
 ⟨hB, h.box, h.inb, h.set, h.rows, h.len, h.cells, h.nodup, World.ownsRow_nil _ _ _ _, World.ownsRow_nil _ _ _ _, h.tz, h.gg, h.ok⟩
theorem Stp.fresh {F F' M : List Nat} {w a b : World} (h : Stp F F' w a) (hw : Wrote M a b) (hM : ∀ x ∈ M, w.heap.size <= x) : Stp F F' w b :=
 ⟨⟨hw.os.trans h.wrote.os, hw.tape.trans h.wrote.tape, hw.output.trans h.wrote.output, Nat.le_trans h.size hw.size, fun i hi hm => (hw.block i (Nat.lt_of_lt_of_le hi h.size) (fun hx => by have := hM i hx; omega)).trans (h.wrote.block i hi hm)⟩, h.sub⟩
theorem bodyPost_gen {P : Program} {fn : Func} {R : Ending -> World -> Prop} {e : Exit} {a : Act} {W : World} (C : World -> Prop) (hC : C W) (h : ∀ W', C W' -> bodyPost P fn R e a W') : bodyPost P fn R e a W := h W hC
theorem out_done {w : World} {B : Nat} {L : Lay} {s : OS} {ps : List PackV} {cs : List ChangeV} (hO : OB w B L s ps cs) (q i : Int) (hn : cs.length < 1000000) :
  Calls Tryz.prog 87 #[.pointer (some ⟨L.p, 0, none⟩), .agg #[.int .i64 1, .string ⟨s.client.toArray⟩, .int .i64 q, .int .i64 i, .string ⟨#[]⟩, .string ⟨#[]⟩, .int .i64 0, .bool false, .int .i64 0]] w fun e w' => ∃ vp vc cs', e = .returned (.agg #[vp, vc]) /\ cs' = cs ++ (if s.seq = q /\ s.id = i then [] else [⟨false, s.session⟩]) /\ (∀ B', B' <= w'.heap.size -> OB w' B' L.nil s [] []) /\
   w'.ownsRow B 81 24 vp ps.length (ps.flatMap PackV.cells) /\ w'.ownsRow B 115 10 vc cs'.length (cs'.flatMap ChangeV.cells) /\ Stp L.foot L.nil.foot w w' := by
 obtain ⟨p, ib, sb, vl, vp, vc, rb, W⟩ := L
 have hvp := hO.packs
 have hvc := hO.chgs
 dsimp only at hvp hvc
 obtain ⟨ap, cp, rfl⟩ := own_slice hvp
 obtain ⟨ac, cc, rfl⟩ := own_slice hvc
 clear hvp hvc;have CS := hid fun (w1 : World) (hb : Below w.heap.size w w1) => out_Session (hO.below hb)
 unfold OS.session RowV.vals at CS
 dsimp only at CS ⊢
 obtain ⟨X, hX⟩ : ∃ X : List ChangeV, (if s.seq = q /\ s.id = i then [] else [⟨false, s.session⟩]) = X := ⟨_, rfl⟩
 rw [hX]
 have hb0 : Below w.heap.size w (((w.alloc (.cells #[.int .i64 1, .string ⟨s.client.toArray⟩, .int .i64 q, .int .i64 i, .string ⟨#[]⟩, .string ⟨#[]⟩, .int .i64 0, .bool false, .int .i64 0] 33)).alloc (.cells #[.slice none 0 0, .slice none 0 0] 53)).drew) := (((Below.refl _ w).alloc (Nat.le_refl _) _).alloc (by simp) _).drew
 by_cases h1 : s.seq = q
 ·by_cases h2 : s.id = i
  ·subst h1 h2
   rw [if_pos ⟨rfl, rfl⟩] at hX
   replace hX := hid hX.symm;go_enter Tryz.func87, Tryz.ntmps87
   go_wp2
   refine regionQ [(1000, fun w' => Blk w' w.heap.size #[.int .i64 1, .string ⟨s.client.toArray⟩, .int .i64 s.seq, .int .i64 s.id, .string ⟨#[]⟩, .string ⟨#[]⟩, .int .i64 0, .bool false, .int .i64 0] 33)] (by kernel_rfl) ⟨(Blk.new w _ _).alloc _, trivial⟩ fun KQ hKQ => ?_
   refine tQ [0] ?_;refine lR 2 0 rfl rfl rfl rfl (fun w' hf => by (have k0 := hf.cell 0; have k1 := hf.cell 1; have k2 := hf.cell 2; have k3 := hf.cell 3; have k4 := hf.cell 4; have k5 := hf.cell 5; have k6 := hf.cell 6; have k7 := hf.cell 7; have k8 := hf.cell 8; simp at k0 k1 k2 k3 k4 k5 k6 k7 k8; go_simp <;> with_reducible rfl)) ?_
   simp only [PT];refine sQ 1 fun K hK => ?_;simp only [GO];go_simp;refine (CS.out _ hb0).mono ?_
   rintro e w1 ⟨rfl, hb1⟩
   have hbl3 := ((Blk.new w #[.int .i64 1, .string ⟨s.client.toArray⟩, .int .i64 s.seq, .int .i64 s.id, .string ⟨#[]⟩, .string ⟨#[]⟩, .int .i64 0, .bool false, .int .i64 0] 33).alloc (.cells #[.slice none 0 0, .slice none 0 0] 53)).drew.below hb1
   have hbl4 := (Blk.new (w.alloc (.cells #[.int .i64 1, .string ⟨s.client.toArray⟩, .int .i64 s.seq, .int .i64 s.id, .string ⟨#[]⟩, .string ⟨#[]⟩, .int .i64 0, .bool false, .int .i64 0] 33)) #[.slice none 0 0, .slice none 0 0] 53).drew.below hb1
   simp only [World.size_alloc] at hbl4
   have hb01 := hb0.trans (hb1.mono hb0.size)
   have hO1 := hO.below hb01
   refine hK _ _ ⟨⟨fun _ => hbl3, trivial⟩, ?_⟩
   clear hK K;refine tQ [3] ?_;refine dQ (hKQ.out _ _ ?_);clear hKQ KQ;have k7 : w1.cell? ⟨p, 7, none⟩ = some (.slice ap ps.length cp) := hO1.box.cell 7
   have m7 := fun o => cell_alloc k7 o
   have k8 : w1.cell? ⟨p, 8, none⟩ = some (.slice ac cs.length cc) := (hO1.box.cell 8).trans (by simp [boxCells])
   have m8 := fun o => cell_alloc k8 o
   have z7 : ∀ o, (w1.alloc o).frozen? ⟨p, 7, none⟩ = false := fun o => (hO1.box.alloc o).frozen 7
   have z8 : ∀ o, (w1.alloc o).frozen? ⟨p, 8, none⟩ = false := fun o => (hO1.box.alloc o).frozen 8
   have q0 : ∀ o, (w1.alloc o).cell? ⟨w.heap.size + 1, 0, none⟩ = some (.slice none 0 0) := fun o => (hbl4.alloc o).cell 0
   have q1 : ∀ o, (w1.alloc o).cell? ⟨w.heap.size + 1, 1, none⟩ = some (.slice none 0 0) := fun o => (hbl4.alloc o).cell 1
   have y0 : ∀ o, (w1.alloc o).frozen? ⟨w.heap.size + 1, 0, none⟩ = false := fun o => (hbl4.alloc o).frozen 0
   have y1 : ∀ o, (w1.alloc o).frozen? ⟨w.heap.size + 1, 1, none⟩ = false := fun o => (hbl4.alloc o).frozen 1
   have hne : p ≠ w.heap.size + 1 := by have := hO.box.lt; dsimp only at this; omega
   have hne2 : p ≠ w1.heap.size := by have := hO1.box.lt; dsimp only at this; omega
   have hne3 : w.heap.size + 1 ≠ w1.heap.size := by have := hbl4.lt; omega
   go_wp2
   have hS1 := Stp.below (F := Lay.foot ⟨p, ib, sb, vl, .slice ap ps.length cp, .slice ac cs.length cc, rb, W⟩) hb01
   exact bk_OutC_doneend1
  ·subst h1
   have e2 : (s.id == i) = false := by simpa using h2
   rw [if_neg (fun h => h2 h.2)] at hX
   replace hX := hid hX.symm;go_enter Tryz.func87, Tryz.ntmps87
   go_wp2
   refine regionQ [(1000, fun w' => Blk w' w.heap.size #[.int .i64 1, .string ⟨s.client.toArray⟩, .int .i64 s.seq, .int .i64 i, .string ⟨#[]⟩, .string ⟨#[]⟩, .int .i64 0, .bool false, .int .i64 0] 33)] (by kernel_rfl) ⟨(Blk.new w _ _).alloc _, trivial⟩ fun KQ hKQ => ?_
   refine tQ [0] ?_;refine lR 2 0 rfl rfl rfl rfl (fun w' hf => by (have k0 := hf.cell 0; have k1 := hf.cell 1; have k2 := hf.cell 2; have k3 := hf.cell 3; have k4 := hf.cell 4; have k5 := hf.cell 5; have k6 := hf.cell 6; have k7 := hf.cell 7; have k8 := hf.cell 8; simp at k0 k1 k2 k3 k4 k5 k6 k7 k8; go_simp <;> with_reducible rfl)) ?_
   simp only [PT];refine sQ 1 fun K hK => ?_;simp only [GO];go_simp;refine (CS.out _ hb0).mono ?_
   rintro e w1 ⟨rfl, hb1⟩
   have hbl3 := ((Blk.new w #[.int .i64 1, .string ⟨s.client.toArray⟩, .int .i64 s.seq, .int .i64 i, .string ⟨#[]⟩, .string ⟨#[]⟩, .int .i64 0, .bool false, .int .i64 0] 33).alloc (.cells #[.slice none 0 0, .slice none 0 0] 53)).drew.below hb1
   have hbl4 := (Blk.new (w.alloc (.cells #[.int .i64 1, .string ⟨s.client.toArray⟩, .int .i64 s.seq, .int .i64 i, .string ⟨#[]⟩, .string ⟨#[]⟩, .int .i64 0, .bool false, .int .i64 0] 33)) #[.slice none 0 0, .slice none 0 0] 53).drew.below hb1
   simp only [World.size_alloc] at hbl4
   have hb01 := hb0.trans (hb1.mono hb0.size)
   have hO1 := hO.below hb01
   refine hK _ _ ⟨⟨fun _ => hbl3, trivial⟩, ?_⟩
   clear hK K;refine tQ [3] ?_;refine dQ (hKQ.out _ _ ?_);clear hKQ KQ;go_wp2_with (go_at_call 14; refine (CS.out _ hb01).mono ?_; rintro e w2 ⟨rfl, hb2⟩)
   refine (out_changes ((hO1.below hb2).alloc _) ⟨false, s.session⟩ _ (Blk.new _ _ _) hn).mono ?_
   rintro e w3 ⟨rfl, v3, hO3, hst3⟩
   obtain ⟨a3, c3, rfl⟩ := own_slice hO3.chgs
   have hR := hid (((hbl4.below hb2).alloc (.cells (ChangeV.cells ⟨false, s.session⟩).toArray 115)).wrote hst3.wrote (fun hx => by have := hO.lt _ hx; (try simp only [World.size_drew, World.size_alloc] at this ⊢); omega))
   try simp only [World.size_drew, World.size_alloc] at hR
   have k7 : w3.cell? ⟨p, 7, none⟩ = some (.slice ap ps.length cp) := hO3.box.cell 7
   have m7 := fun o => cell_alloc k7 o
   have k8 : w3.cell? ⟨p, 8, none⟩ = some (.slice a3 (cs.length+1) c3) := (hO3.box.cell 8).trans (by simp [boxCells])
   have m8 := fun o => cell_alloc k8 o
   have z7 : ∀ o, (w3.alloc o).frozen? ⟨p, 7, none⟩ = false := fun o => (hO3.box.alloc o).frozen 7
   have z8 : ∀ o, (w3.alloc o).frozen? ⟨p, 8, none⟩ = false := fun o => (hO3.box.alloc o).frozen 8
   have q0 : ∀ o, (w3.alloc o).cell? ⟨w.heap.size + 1, 0, none⟩ = some (.slice none 0 0) := fun o => (hR.out.alloc o).cell 0
   have q1 : ∀ o, (w3.alloc o).cell? ⟨w.heap.size + 1, 1, none⟩ = some (.slice none 0 0) := fun o => (hR.out.alloc o).cell 1
   have y0 : ∀ o, (w3.alloc o).frozen? ⟨w.heap.size + 1, 0, none⟩ = false := fun o => (hR.out.alloc o).frozen 0
   have y1 : ∀ o, (w3.alloc o).frozen? ⟨w.heap.size + 1, 1, none⟩ = false := fun o => (hR.out.alloc o).frozen 1
   have hne : p ≠ w.heap.size + 1 := by have := hO.box.lt; dsimp only at this; omega
   have hne2 : p ≠ w3.heap.size := by have := hO3.box.lt; dsimp only at this; omega
   have hne3 : w.heap.size + 1 ≠ w3.heap.size := by have := hR.out.lt; omega
   go_wp2
   have hS3 := (Stp.below ((hb01.trans (hb2.mono hb01.size)).alloc (Nat.le_trans hb01.size hb2.size) _)).trans hst3
   exact bk_OutC_doneend2
 ·have e1 : (s.seq == q) = false := by simpa using h1
  rw [if_neg (fun h => h1 h.1)] at hX
  replace hX := hid hX.symm;go_enter Tryz.func87, Tryz.ntmps87
  go_wp2
  refine regionQ [(1000, fun w' => Blk w' w.heap.size #[.int .i64 1, .string ⟨s.client.toArray⟩, .int .i64 q, .int .i64 i, .string ⟨#[]⟩, .string ⟨#[]⟩, .int .i64 0, .bool false, .int .i64 0] 33)] (by kernel_rfl) ⟨(Blk.new w _ _).alloc _, trivial⟩ fun KQ hKQ => ?_
  refine tQ [0] ?_;refine lR 2 0 rfl rfl rfl rfl (fun w' hf => by (have k0 := hf.cell 0; have k1 := hf.cell 1; have k2 := hf.cell 2; have k3 := hf.cell 3; have k4 := hf.cell 4; have k5 := hf.cell 5; have k6 := hf.cell 6; have k7 := hf.cell 7; have k8 := hf.cell 8; simp at k0 k1 k2 k3 k4 k5 k6 k7 k8; go_simp <;> with_reducible rfl)) ?_
  simp only [PT];refine sQ 1 fun K hK => ?_;simp only [GO];go_simp;refine (CS.out _ hb0).mono ?_
  rintro e w1 ⟨rfl, hb1⟩
  have hbl3 := ((Blk.new w #[.int .i64 1, .string ⟨s.client.toArray⟩, .int .i64 q, .int .i64 i, .string ⟨#[]⟩, .string ⟨#[]⟩, .int .i64 0, .bool false, .int .i64 0] 33).alloc (.cells #[.slice none 0 0, .slice none 0 0] 53)).drew.below hb1
  have hbl4 := (Blk.new (w.alloc (.cells #[.int .i64 1, .string ⟨s.client.toArray⟩, .int .i64 q, .int .i64 i, .string ⟨#[]⟩, .string ⟨#[]⟩, .int .i64 0, .bool false, .int .i64 0] 33)) #[.slice none 0 0, .slice none 0 0] 53).drew.below hb1
  simp only [World.size_alloc] at hbl4
  have hb01 := hb0.trans (hb1.mono hb0.size)
  have hO1 := hO.below hb01
  refine hK _ _ ⟨⟨fun _ => hbl3, trivial⟩, ?_⟩
  clear hK K;refine tQ [3] ?_;refine dQ (hKQ.out _ _ ?_);clear hKQ KQ;go_wp2_with (go_at_call 14; refine (CS.out _ hb01).mono ?_; rintro e w2 ⟨rfl, hb2⟩)
  refine (out_changes ((hO1.below hb2).alloc _) ⟨false, s.session⟩ _ (Blk.new _ _ _) hn).mono ?_
  rintro e w3 ⟨rfl, v3, hO3, hst3⟩
  obtain ⟨a3, c3, rfl⟩ := own_slice hO3.chgs
  have hR := hid (((hbl4.below hb2).alloc (.cells (ChangeV.cells ⟨false, s.session⟩).toArray 115)).wrote hst3.wrote (fun hx => by have := hO.lt _ hx; (try simp only [World.size_drew, World.size_alloc] at this ⊢); omega))
  try simp only [World.size_drew, World.size_alloc] at hR
  have k7 : w3.cell? ⟨p, 7, none⟩ = some (.slice ap ps.length cp) := hO3.box.cell 7
  have m7 := fun o => cell_alloc k7 o
  have k8 : w3.cell? ⟨p, 8, none⟩ = some (.slice a3 (cs.length+1) c3) := (hO3.box.cell 8).trans (by simp [boxCells])
  have m8 := fun o => cell_alloc k8 o
  have z7 : ∀ o, (w3.alloc o).frozen? ⟨p, 7, none⟩ = false := fun o => (hO3.box.alloc o).frozen 7
  have z8 : ∀ o, (w3.alloc o).frozen? ⟨p, 8, none⟩ = false := fun o => (hO3.box.alloc o).frozen 8
  have q0 : ∀ o, (w3.alloc o).cell? ⟨w.heap.size + 1, 0, none⟩ = some (.slice none 0 0) := fun o => (hR.out.alloc o).cell 0
  have q1 : ∀ o, (w3.alloc o).cell? ⟨w.heap.size + 1, 1, none⟩ = some (.slice none 0 0) := fun o => (hR.out.alloc o).cell 1
  have y0 : ∀ o, (w3.alloc o).frozen? ⟨w.heap.size + 1, 0, none⟩ = false := fun o => (hR.out.alloc o).frozen 0
  have y1 : ∀ o, (w3.alloc o).frozen? ⟨w.heap.size + 1, 1, none⟩ = false := fun o => (hR.out.alloc o).frozen 1
  have hne : p ≠ w.heap.size + 1 := by have := hO.box.lt; dsimp only at this; omega
  have hne2 : p ≠ w3.heap.size := by have := hO3.box.lt; dsimp only at this; omega
  have hne3 : w.heap.size + 1 ≠ w3.heap.size := by have := hR.out.lt; omega
  go_wp2
  have hS3 := (Stp.below ((hb01.trans (hb2.mono hb01.size)).alloc (Nat.le_trans hb01.size hb2.size) _)).trans hst3
  exact bk_OutC_doneend2
end
section
structure DidAt (w w' : World) (L L' : Lay) (s' : OS) (vp vc : Value) (ps : List PackV) (cs : List ChangeV) : Prop where
 ob : OB w' w'.heap.size L' s' [] []
 nil : L'.vp = .slice none 0 0 /\ L'.vc = .slice none 0 0
 p : L'.p = L.p
 stp : Stp L.foot L'.foot w w'
 packs : w'.ownsRow w.heap.size 81 24 vp ps.length (ps.flatMap PackV.cells)
 chgs : w'.ownsRow w.heap.size 115 10 vc cs.length (cs.flatMap ChangeV.cells)
theorem idsOf_push (l : List RowV) (r : RowV) (h : r.stage = 1) : idsOf (l ++ [r]) = idsOf l := by simp [idsOf, h]
theorem OB.push {w w1 : World} {B : Nat} {L : Lay} {s : OS} {ps : List PackV} {cs : List ChangeV} (h : OB w B L s ps cs) (r : RowV) (b : Nat) (hb : Blk w b r.vals 33) (hnb : b ∉ L.foot) (hgb : b ≠ 1) (hst : r.stage = 1) (v' : Value)
  (r1 : w1.ownsRow 0 126 1 v' (s.l.length + 1) (ptrs L.rb ++ [.pointer (some ⟨b, 0, none⟩)])) (g1 : w.grownBy w1 L.vl.ownBlock) (n1 : ∀ k, v'.ownBlock = some k -> L.vl.ownBlock = some k \/ w.heap.size <= k)
  (hok : OS.OK { s with l := s.l ++ [r] }) :
  OB (w1.setCell ⟨L.p, 6, none⟩ v') B { L with vl := v', rb := L.rb ++ [b] } { s with l := s.l ++ [r] } ps cs /\ Wrote L.foot w (w1.setCell ⟨L.p, 6, none⟩ v') /\ (∀ x ∈ ({ L with vl := v', rb := L.rb ++ [b] } : Lay).foot, x ∈ L.foot \/ x = b \/ w.heap.size <= x) := by
 obtain ⟨p, ib, sb, vl, vp, vc, rb, W⟩ := L
 dsimp only at *
 have hw1 : WT 126 w w1 := WT.row h.rows g1
 have b1 := h.box.wt hw1 (by decide)
 have hw2 : WT 123 w1 (w1.setCell ⟨p, 6, none⟩ v') := WT.set b1 6 _
 have hst' : Wrote (Lay.foot ⟨p, ib, sb, vl, vp, vc, rb, W⟩) w (w1.setCell ⟨p, 6, none⟩ v') := by
  refine (Wrote.of_grown g1 (fun k hk => ?_)).trans (Wrote.setCell w1 _ (by simp [Lay.foot]) _)
  simp [Lay.foot, mem_blk, hk]
 have hsub : ∀ x ∈ Lay.foot ⟨p, ib, sb, v', vp, vc, rb ++ [b], W⟩, x ∈ Lay.foot ⟨p, ib, sb, vl, vp, vc, rb, W⟩ \/ x = b \/ w.heap.size <= x := by
  intro x hx
  simp only [Lay.foot, List.mem_cons, List.mem_append, mem_blk, List.mem_singleton, List.not_mem_nil, or_false] at hx ⊢
  have := n1 x
  rcases hx with hx | hx | hx | ((hx | hx) | hx) | hx | hx
  all_goals first | (simp [hx]; done) | (rcases this hx with h1 | h1 <;> simp [h1])
 refine ⟨⟨Nat.le_trans h.base hst'.size, b1.set 6 _, ⟨(h.inb.box.wt hw1 (by decide)).wt hw2 (by decide), (h.inb.set.wt hw1 (by decide)).wt hw2 (by decide)⟩, ?_, ?_, ?_, ?_, ?_, row_wt (row_wt h.packs hw1 (by decide)) hw2 (by decide), row_wt (row_wt h.chgs hw1 (by decide)) hw2 (by decide), h.tz.wrote hst' h.gg, ?_, hok⟩, hst', hsub⟩
 ·show SetIs W (idsOf (s.l ++ [r]))
  rw [idsOf_push _ _ hst]; exact h.set
 ·have := row_wt r1 hw2 (by decide)
  simpa [ptrs] using this
 ·simp [h.len]
 ·intro i b' r' h1 h2
  have hl := h.len
  dsimp only at hl h1 h2
  rcases Nat.lt_or_ge i s.l.length with hi | hi
  ·rw [List.getElem?_append_left (by omega)] at h1 h2
   exact ((h.cells i b' r' h1 h2).wt hw1 (by decide)).wt hw2 (by decide)
  ·rw [List.getElem?_append_right (by omega)] at h1 h2
   have e1 : i - s.l.length = 0 := by
    rcases Nat.eq_zero_or_pos (i - s.l.length) with h | h
    ·exact h
    ·rw [List.getElem?_eq_none (by simp; omega)] at h2; cases h2
   rw [e1] at h2
   rw [hl, e1] at h1
   simp at h1 h2
   subst h1 h2;exact (hb.wt hw1 (by decide)).wt hw2 (by decide)
 ·have hn : b ∉ rb := fun hm => hnb (by simp [Lay.foot, hm])
  show (rb ++ [b]).Nodup
  rw [List.nodup_append]
  refine ⟨h.nodup, by simp, fun a ha c hc => ?_⟩
  simp at hc
  subst hc;exact fun e => hn (e ▸ ha)
 ·intro hx
  rcases hsub _ hx with h1 | h1 | h1
  ·exact h.gg h1
  ·exact hgb h1.symm
  ·have := h.tz.lt; omega
theorem OB.setSeq {w : World} {B : Nat} {L : Lay} {s : OS} {ps : List PackV} {cs : List ChangeV} (h : OB w B L s ps cs) (z : Int) (hz : 0 <= z /\ z <= 4611686018427387905) :
  OB (w.setCell ⟨L.p, 4, none⟩ (.int .i64 z)) B L { s with seq := z } ps cs /\ Stp L.foot L.foot w (w.setCell ⟨L.p, 4, none⟩ (.int .i64 z)) := by
 have hw2 : WT 123 w (w.setCell ⟨L.p, 4, none⟩ (.int .i64 z)) := WT.set h.box 4 _
 have hst : Wrote L.foot w (w.setCell ⟨L.p, 4, none⟩ (.int .i64 z)) := Wrote.setCell w _ (by simp [Lay.foot]) _
 exact ⟨⟨Nat.le_trans h.base hst.size, h.box.set 4 _, ⟨h.inb.box.wt hw2 (by decide), h.inb.set.wt hw2 (by decide)⟩, h.set, row_wt h.rows hw2 (by decide), h.len, fun i b r h1 h2 => (h.cells i b r h1 h2).wt hw2 (by decide), h.nodup, row_wt h.packs hw2 (by decide), row_wt h.chgs hw2 (by decide), h.tz.wrote hst h.gg, h.gg,
  ⟨h.ok.win, h.ok.room, hz, h.ok.id, h.ok.cl, h.ok.ids, h.ok.nodup, h.ok.under⟩⟩, hst, fun x hx => .inl hx⟩
theorem OB.setId {w : World} {B : Nat} {L : Lay} {s : OS} {ps : List PackV} {cs : List ChangeV} (h : OB w B L s ps cs) (z : Int) (hz : 1 <= z /\ z <= 65535) :
  OB (w.setCell ⟨L.p, 5, none⟩ (.int .i64 z)) B L { s with id := z } ps cs /\ Stp L.foot L.foot w (w.setCell ⟨L.p, 5, none⟩ (.int .i64 z)) := by
 have hw2 : WT 123 w (w.setCell ⟨L.p, 5, none⟩ (.int .i64 z)) := WT.set h.box 5 _
 have hst : Wrote L.foot w (w.setCell ⟨L.p, 5, none⟩ (.int .i64 z)) := Wrote.setCell w _ (by simp [Lay.foot]) _
 exact ⟨⟨Nat.le_trans h.base hst.size, h.box.set 5 _, ⟨h.inb.box.wt hw2 (by decide), h.inb.set.wt hw2 (by decide)⟩, h.set, row_wt h.rows hw2 (by decide), h.len, fun i b r h1 h2 => (h.cells i b r h1 h2).wt hw2 (by decide), h.nodup, row_wt h.packs hw2 (by decide), row_wt h.chgs hw2 (by decide), h.tz.wrote hst h.gg, h.gg,
  ⟨h.ok.win, h.ok.room, h.ok.seq, hz, h.ok.cl, h.ok.ids, h.ok.nodup, h.ok.under⟩⟩, hst, fun x hx => .inl hx⟩
end
end Go.Proofs.YtoinabapaeebfaaGreatDoor
