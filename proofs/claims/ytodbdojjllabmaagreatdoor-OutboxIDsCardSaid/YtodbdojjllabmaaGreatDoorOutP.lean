/- Contracts of package outbox (part 16): puback, pubrec, pubcomp. -/
import Derived.Test.YtodbdojjllabmaaGreatDoorOutO
namespace Go.Proofs.YtodbdojjllabmaaGreatDoor
open Go.RowKit Go.Shelf

theorem ids_same (l : List RowV) (k : Nat) (r r' : RowV) (h : l[k]? = some r) (h1 : r.stage ≠ 1) (h2 : r'.stage ≠ 1) (h3 : r'.id = r.id) : idsOf (l.set k r') = idsOf l := by
  induction l generalizing k with
  | nil => rfl
  | cons x l ih =>
    cases k with
    | zero =>
      simp at h
      subst h
      simp [idsOf, h1, h2, h3]
    | succ k =>
      simp at h
      have := ih k h
      by_cases hx : x.stage = 1
      · simpa [idsOf, hx] using this
      · simpa [idsOf, hx] using this

/-- The stage of a row under way is set to 3. -/
theorem OB.setStage {w : World} {B : Nat} {L : Lay} {s : OS} {ps : List PackV} {cs : List ChangeV} (h : OB w B L s ps cs) (k b : Nat) (r : RowV) (hb : L.rb[k]? = some b) (hr : s.l[k]? = some r) (hs : r.stage ≠ 1) :
    OB (w.setCell ⟨b, 8, none⟩ (.int .i64 3)) B L { s with l := s.l.set k { r with stage := 3 } } ps cs ∧ Stp L.foot L.foot w (w.setCell ⟨b, 8, none⟩ (.int .i64 3)) := by
  have hrow := h.cells k b r hb hr
  have t := WT.set hrow 8 (.int .i64 3)
  have hbf : b ∈ L.foot := by simp [Lay.foot, List.mem_of_getElem? hb]
  have hst : Wrote L.foot w (w.setCell ⟨b, 8, none⟩ (.int .i64 3)) := Wrote.setCell w _ hbf _
  have hids := ids_same s.l k r { r with stage := 3 } hr hs (by simp) rfl
  refine ⟨⟨Nat.le_trans h.base hst.size, h.box.wt t (by decide), ⟨h.inb.box.wt t (by decide), h.inb.set.wt t (by decide)⟩, ?_, ?_, ?_, ?_, h.nodup, row_wt h.packs t (by decide), row_wt h.chgs t (by decide), h.tz.wrote hst h.gg, h.gg, ?_⟩, hst, fun x hx => .inl hx⟩
  · show SetIs L.W (idsOf (s.l.set k _))
    rw [hids]; exact h.set
  · have := row_wt h.rows t (by decide)
    simpa using this
  · simpa using h.len
  · intro j b' r' h1 h2
    dsimp only at h1 h2
    by_cases e : j = k
    · subst e
      rw [hb] at h1
      cases h1
      rw [List.getElem?_set_self (List.getElem?_eq_some_iff.1 hr).1] at h2
      cases h2
      exact hrow.set 8 _
    · rw [List.getElem?_set_ne (Ne.symm e)] at h2
      refine (h.cells j b' r' h1 h2).set_ne ⟨b, 8, none⟩ (fun hm => ?_) _
      dsimp only at hm
      subst hm
      exact e ((List.getElem?_inj (List.getElem?_eq_some_iff.1 h1).1 h.nodup).1 (h1.trans hb.symm))
  · have hok := h.ok
    refine ⟨hok.win, by simpa using hok.room, hok.seq, hok.id, hok.cl, fun x hx hx1 => ?_, by show (idsOf (s.l.set k _)).Nodup; rw [hids]; exact hok.nodup, by show ((idsOf (s.l.set k _)).length : Int) ≤ _; rw [hids]; exact hok.under⟩
    rcases List.mem_or_eq_of_mem_set hx with hx | hx
    · exact hok.ids x hx hx1
    · subst hx; exact hok.ids r (List.mem_of_getElem? hr) hs

def pubrel (z : Int) : PackV := ⟨6, false, false, 0, [], [], z⟩
def SS.rel (x : SS) (z : Int) : SS := ⟨x.s, x.ps ++ [pubrel z], x.cs⟩
def SS.recv (x : SS) (k : Nat) : SS := match x.s.l[k]? with
  | none => x
  | some r => if r.stage = 2 then ⟨{ x.s with l := x.s.l.set k { r with stage := 3 } }, x.ps, x.cs ++ [⟨false, { r with stage := 3 }⟩]⟩ else x
def SS.pubrec (x : SS) (n z : Int) : SS := if n < 0 then x.rel z else match x.s.l[n.toNat]? with
  | none => x
  | some r => if r.qos = 2 then (x.recv n.toNat).rel z else x

/-- What the three tell. -/
def Told (w : World) (B : Nat) (L : Lay) (X : SS) (e : Ending) (w' : World) : Prop := e = .returned (.tuple #[]) ∧ ∃ L', L'.p = L.p ∧ OB w' B L' X.s X.ps X.cs ∧ Stp L.foot L'.foot w w'

set_option maxRecDepth 100000 in
set_option maxHeartbeats 400000 in
theorem out_puback {w : World} {B : Nat} {L : Lay} {s : OS} {ps : List PackV} {cs : List ChangeV} (h : OB w B L s ps cs) (n z : Int) (hn : n < s.l.length) (hcs : cs.length ≤ 10000) :
    Calls Tryz.prog 35 #[.pointer (some ⟨L.p, 0, none⟩), .int .i64 n, .int .i64 z] w (Told w B L (SS.goneAt ⟨s, ps, cs⟩ n 2 1)) := by
  have CG := hid (out_gone h n 2 1 (by decide) hn hcs)
  obtain ⟨X, hX⟩ : ∃ X, SS.goneAt ⟨s, ps, cs⟩ n 2 1 = X := ⟨_, rfl⟩
  rw [hX] at CG ⊢
  go_enter Tryz.func35, Tryz.ntmps35
  go_wp2_with (go_at_call 61; refine CG.out.mono ?_; rintro e w1 ⟨rfl, L', hp, -, hO, hS⟩)
  go_end0
  exact ⟨rfl, L', hp, hO, hS⟩
set_option maxRecDepth 100000 in
set_option maxHeartbeats 400000 in
theorem out_pubcomp {w : World} {B : Nat} {L : Lay} {s : OS} {ps : List PackV} {cs : List ChangeV} (h : OB w B L s ps cs) (n z : Int) (hn : n < s.l.length) (hcs : cs.length ≤ 10000) :
    Calls Tryz.prog 37 #[.pointer (some ⟨L.p, 0, none⟩), .int .i64 n, .int .i64 z] w (Told w B L (SS.goneAt ⟨s, ps, cs⟩ n 3 2)) := by
  have CG := hid (out_gone h n 3 2 (by decide) hn hcs)
  obtain ⟨X, hX⟩ : ∃ X, SS.goneAt ⟨s, ps, cs⟩ n 3 2 = X := ⟨_, rfl⟩
  rw [hX] at CG ⊢
  go_enter Tryz.func37, Tryz.ntmps37
  go_wp2_with (go_at_call 61; refine CG.out.mono ?_; rintro e w1 ⟨rfl, L', hp, -, hO, hS⟩)
  go_end0
  exact ⟨rfl, L', hp, hO, hS⟩

set_option maxRecDepth 100000 in
set_option maxHeartbeats 1000000 in
theorem out_pubrec {w : World} {B : Nat} {L : Lay} {s : OS} {ps : List PackV} {cs : List ChangeV} (h : OB w B L s ps cs) (n z : Int) (hn : n < s.l.length) (hcs : cs.length ≤ 10000) (hps : ps.length ≤ 10000) (hst : 0 ≤ n → ∀ r, s.l[n.toNat]? = some r → r.stage ≠ 1) :
    Calls Tryz.prog 36 #[.pointer (some ⟨L.p, 0, none⟩), .int .i64 n, .int .i64 z] w (Told w B L (SS.pubrec ⟨s, ps, cs⟩ n z)) := by
  obtain ⟨X, hX⟩ : ∃ X, SS.pubrec ⟨s, ps, cs⟩ n z = X := ⟨_, rfl⟩
  rw [hX]
  by_cases hneg : n < 0
  · have d1 : decide (0 ≤ n) = false := decide_eq_false (by omega)
    have hX2 : X = ⟨s, ps ++ [pubrel z], cs⟩ := by rw [← hX]; simp [SS.pubrec, hneg, SS.rel]
    clear hX
    replace hX2 := hid hX2
    go_enter Tryz.func36, Tryz.ntmps36
    go_wp2_with fail
    refine (out_says (h.alloc _) (pubrel z) w.heap.size (Blk.new_at _ _ _ _ rfl) (by omega)).mono ?_
    rintro e w1 ⟨rfl, v1, hO1, hst1⟩
    go_wp2
    go_end0
    rw [hX2.out]
    exact ⟨rfl, { L with vp := v1 }, rfl, hO1, (Stp.below ((Below.refl _ w).alloc (Nat.le_refl _) _)).trans hst1⟩
  · obtain ⟨k, rfl⟩ : ∃ k : Nat, n = k := ⟨n.toNat, by omega⟩
    have hk : k < s.l.length := by omega
    obtain ⟨r, hr⟩ : ∃ r, s.l[k]? = some r := ⟨_, List.getElem?_eq_getElem hk⟩
    obtain ⟨b, g, cap, hb, A⟩ := h.atRow k r hr
    have hgi : X = if r.qos = 2 then (SS.recv ⟨s, ps, cs⟩ k).rel z else ⟨s, ps, cs⟩ := by rw [← hX]; simp [SS.pubrec, hneg, hr]
    clear hX
    have k6 := A.box
    have ka := A.arr
    have kl := A.lt
    have kc := A.le
    have hrs := hst (by omega) r (by simpa using hr)
    obtain ⟨kd, cl, sq, id, tp, bd, qs, rt, stg⟩ := r
    have c8 : w.cell? ⟨b, 8, none⟩ = some (.int .i64 stg) := A.row.cell 8
    have c6 : w.cell? ⟨b, 6, none⟩ = some (.int .i64 qs) := A.row.cell 6
    dsimp only at hgi hrs
    by_cases h1 : qs = 2
    · subst h1
      rw [if_pos rfl] at hgi
      by_cases h2 : stg = 2
      · subst h2
        have hX2 : X = ⟨{ s with l := s.l.set k ⟨kd, cl, sq, id, tp, bd, 2, rt, 3⟩ }, ps ++ [pubrel z], cs ++ [⟨false, ⟨kd, cl, sq, id, tp, bd, 2, rt, 3⟩⟩]⟩ := by rw [hgi]; simp [SS.recv, hr, SS.rel]
        clear hgi
        replace hX2 := hid hX2
        have c0 : w.cell? ⟨b, 0, none⟩ = some (.int .i64 kd) := A.row.cell 0
        have c1 : w.cell? ⟨b, 1, none⟩ = some (.string ⟨cl.toArray⟩) := A.row.cell 1
        have c2 : w.cell? ⟨b, 2, none⟩ = some (.int .i64 sq) := A.row.cell 2
        have c3 : w.cell? ⟨b, 3, none⟩ = some (.int .i64 id) := A.row.cell 3
        have c4 : w.cell? ⟨b, 4, none⟩ = some (.string ⟨tp.toArray⟩) := A.row.cell 4
        have c5 : w.cell? ⟨b, 5, none⟩ = some (.string ⟨bd.toArray⟩) := A.row.cell 5
        have c7 : w.cell? ⟨b, 7, none⟩ = some (.bool rt) := A.row.cell 7
        have z8 : w.frozen? ⟨b, 8, none⟩ = false := A.row.frozen 8
        have npb : L.p ≠ b := h.box.ne A.row (by decide)
        have ngb : g ≠ b := by
          have hr0 := h.rows
          rw [A.vl] at hr0
          intro e
          exact block_not_row A.row (by decide) hr0 (by simp [Value.ownBlock, e])
        obtain ⟨hO1, hS1⟩ := h.setStage k b _ hb hr (by simp)
        dsimp only at hO1
        have HO1 := hid hO1
        have HS1 := hid hS1
        clear hO1 hS1
        go_enter Tryz.func36, Tryz.ntmps36
        go_wp2_with fail
        refine (out_changes (HO1.out.alloc _) ⟨false, ⟨kd, cl, sq, id, tp, bd, 2, rt, 3⟩⟩ w.heap.size (Blk.new_at _ _ _ _ (by simp)) (by omega)).mono ?_
        rintro e w1 ⟨rfl, v1, hO2, hst2⟩
        go_wp2_with fail
        refine (out_says (hO2.alloc _) (pubrel z) w1.heap.size (Blk.new_at _ _ _ _ rfl) (by omega)).mono ?_
        rintro e w2 ⟨rfl, v2, hO3, hst3⟩
        go_wp2
        go_end0
        rw [hX2.out]
        exact ⟨rfl, { L with vc := v1, vp := v2 }, rfl, hO3, ((HS1.out.trans (Stp.below ((Below.refl _ _).alloc (Nat.le_refl _) _))).trans hst2).trans ((Stp.below ((Below.refl _ w1).alloc (Nat.le_refl _) _)).trans hst3)⟩
      · have e2 : (stg == 2) = false := by simpa using h2
        have hX2 : X = ⟨s, ps ++ [pubrel z], cs⟩ := by rw [hgi]; simp [SS.recv, hr, h2, SS.rel]
        clear hgi
        replace hX2 := hid hX2
        go_enter Tryz.func36, Tryz.ntmps36
        go_wp2_with fail
        refine (out_says (h.alloc _) (pubrel z) w.heap.size (Blk.new_at _ _ _ _ rfl) (by omega)).mono ?_
        rintro e w1 ⟨rfl, v1, hO1, hst1⟩
        go_wp2
        go_end0
        rw [hX2.out]
        exact ⟨rfl, { L with vp := v1 }, rfl, hO1, (Stp.below ((Below.refl _ w).alloc (Nat.le_refl _) _)).trans hst1⟩
    · have e1 : (qs != 2) = true := by simpa using h1
      rw [if_neg h1] at hgi
      replace hgi := hid hgi
      go_enter Tryz.func36, Tryz.ntmps36
      go_wp2
      refine bodyPost_ret (results_none rfl _ _ _) rfl ?_
      rw [hgi.out]
      exact ⟨rfl, L, rfl, h, Stp.refl _ _⟩
end Go.Proofs.YtodbdojjllabmaaGreatDoor
