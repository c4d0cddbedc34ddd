/- Contracts of package outbox (part 15): gone. · Contracts of package outbox (part 16): puback, pubrec, pubcomp. -/
import Derived.Test.YtoinabapaeebfaaGreatDoorPk21
set_option linter.unusedSimpArgs false
set_option linter.unusedVariables false
namespace Go.Proofs.YtoinabapaeebfaaGreatDoor
open Go.RowKit Go.Shelf

/-- The row at place k goes, if it is of a stage and a Qos. -/
def SS.goneIf (x : SS) (k : Nat) (st q : Int) : SS := match x.s.l[k]? with
  | none => x
  | some r => if r.stage = st ∧ r.qos = q then x.gone k else x

/-- At a row: what the walk needs of it. -/
structure AtRow (w : World) (L : Lay) (k b : Nat) (r : RowV) (g n cap : Nat) : Prop where
  vl : L.vl = .slice (some ⟨g, 0, none⟩) n cap
  box : w.cell? ⟨L.p, 6, none⟩ = some (.slice (some ⟨g, 0, none⟩) n cap)
  arr : w.cell? ⟨g, k, none⟩ = some (.pointer (some ⟨b, 0, none⟩))
  row : Blk w b r.vals 33
  lt : k < n
  le : n ≤ cap
theorem OB.atRow {w : World} {B : Nat} {L : Lay} {s : OS} {ps : List PackV} {cs : List ChangeV} (h : OB w B L s ps cs) (k : Nat) (r : RowV) (hr : s.l[k]? = some r) : ∃ b g cap, L.rb[k]? = some b ∧ AtRow w L k b r g s.l.length cap := by
  have hlt := (List.getElem?_eq_some_iff.1 hr).1
  have hlen := h.len
  obtain ⟨b, hb⟩ : ∃ b, L.rb[k]? = some b := ⟨_, List.getElem?_eq_getElem (by omega)⟩
  obtain ⟨a, cap, hv, hc⟩ := own_cell h.rows
  obtain ⟨g, rfl, hg⟩ := hc k (.pointer (some ⟨b, 0, none⟩)) (by simp [ptrs, hb])
  refine ⟨b, g, cap, hb, hv, (h.box.cell 6).trans (by simp [boxCells, hv]), hg, h.cells k b r hb hr, hlt, ?_⟩
  have hr := h.rows
  rw [hv] at hr
  obtain ⟨_, ⟨he, _⟩ | ⟨g', cap', cur, he, _, _, hn, _⟩⟩ := hr
  · cases he
  · cases he; exact hn

def SS.goneAt (x : SS) (n st q : Int) : SS := if n < 0 then x else x.goneIf n.toNat st q

set_option maxRecDepth 100000 in
set_option maxHeartbeats 1000000 in
theorem out_gone {w : World} {B : Nat} {L : Lay} {s : OS} {ps : List PackV} {cs : List ChangeV} (h : OB w B L s ps cs) (n : Int) (st q : Int) (hst : st ≠ 1) (hn : n < s.l.length) (hcs : cs.length ≤ 10000) :
    Calls Tryz.prog 143 #[.pointer (some ⟨L.p, 0, none⟩), .int .i64 n, .int .i64 st, .int .i64 q] w fun e w' => e = .returned (.tuple #[]) ∧
      ∃ L', L'.p = L.p ∧ L'.vp = L.vp ∧ OB w' B L' (SS.goneAt ⟨s, ps, cs⟩ n st q).s (SS.goneAt ⟨s, ps, cs⟩ n st q).ps (SS.goneAt ⟨s, ps, cs⟩ n st q).cs ∧ Stp L.foot L'.foot w w' := by
  obtain ⟨X, hX⟩ : ∃ X, SS.goneAt ⟨s, ps, cs⟩ n st q = X := ⟨_, rfl⟩
  rw [hX]
  by_cases hneg : n < 0
  · have d1 : decide (n < 0) = true := decide_eq_true hneg
    have hX2 : X = ⟨s, ps, cs⟩ := by rw [← hX]; simp [SS.goneAt, hneg]
    clear hX
    replace hX2 := hid hX2
    go_enter Tryz.func143, Tryz.ntmps143
    go_wp2
    refine bodyPost_ret (results_none rfl _ _ _) rfl ?_
    rw [hX2.out]
    exact ⟨rfl, L, rfl, rfl, h, Stp.refl _ _⟩
  · obtain ⟨k, rfl⟩ : ∃ k : Nat, n = k := ⟨n.toNat, by omega⟩
    have hk : k < s.l.length := by omega
    obtain ⟨r, hr⟩ : ∃ r, s.l[k]? = some r := ⟨_, List.getElem?_eq_getElem hk⟩
    obtain ⟨b, g, cap, hb, A⟩ := h.atRow k r hr
    have hgi : X = if r.stage = st ∧ r.qos = q then SS.gone ⟨s, ps, cs⟩ k else ⟨s, ps, cs⟩ := by rw [← hX]; simp [SS.goneAt, hneg, SS.goneIf, hr]
    clear hX
    have k6 := A.box
    have ka := A.arr
    have kl := A.lt
    have kc := A.le
    obtain ⟨kd, cl, sq, id, tp, bd, qs, rt, stg⟩ := r
    have c8 : w.cell? ⟨b, 8, none⟩ = some (.int .i64 stg) := A.row.cell 8
    have c6 : w.cell? ⟨b, 6, none⟩ = some (.int .i64 qs) := A.row.cell 6
    dsimp only at hgi
    by_cases h1 : stg = st
    · subst h1
      by_cases h2 : qs = q
      · subst h2
        rw [if_pos ⟨rfl, rfl⟩] at hgi
        replace hgi := hid hgi
        have c0 : w.cell? ⟨b, 0, none⟩ = some (.int .i64 kd) := A.row.cell 0
        have c1 : w.cell? ⟨b, 1, none⟩ = some (.string ⟨cl.toArray⟩) := A.row.cell 1
        have c2 : w.cell? ⟨b, 2, none⟩ = some (.int .i64 sq) := A.row.cell 2
        have c3 : w.cell? ⟨b, 3, none⟩ = some (.int .i64 id) := A.row.cell 3
        have c4 : w.cell? ⟨b, 4, none⟩ = some (.string ⟨tp.toArray⟩) := A.row.cell 4
        have c5 : w.cell? ⟨b, 5, none⟩ = some (.string ⟨bd.toArray⟩) := A.row.cell 5
        have c7 : w.cell? ⟨b, 7, none⟩ = some (.bool rt) := A.row.cell 7
        go_enter Tryz.func143, Tryz.ntmps143
        go_wp2_with fail
        refine (out_changes (h.alloc _) ⟨true, ⟨kd, cl, sq, id, tp, bd, qs, rt, stg⟩⟩ w.heap.size (Blk.new_at _ _ _ _ rfl) (by omega)).mono ?_
        rintro e w1 ⟨rfl, v1, hO1, hst1⟩
        have hO1 := hid hO1
        have hrow1 : Blk w1 b _ 33 := hO1.out.cells k b _ hb hr
        have hbox1 := hid hO1.out.box
        clear c0 c1 c2 c3 c4 c5 c6 c7 c8 k6 ka
        go_wp2_with fail
        have CG := hid (in_Go L.ib L.sb 100 L.W (idsOf s.l) id w1.drew ⟨hO1.out.inb.box, hO1.out.inb.set⟩ hO1.out.set (hO1.out.ok.ids _ (List.mem_of_getElem? hr) hst).1 (hO1.out.ok.ids _ (List.mem_of_getElem? hr) hst).2 ((ids_erase s.l k _ hr hst).mem_iff.2 (by simp)))
        refine regionQ [(1000, fun w' => w'.cell? ⟨L.p, 0, none⟩ = some (.pointer (some ⟨L.ib, 0, none⟩))), (1000, fun w' => w'.cell? ⟨b, 3, none⟩ = some (.int .i64 id))] (by kernel_rfl) ⟨hbox1.out.cell 0, hrow1.cell 3, trivial⟩ fun KQ hKQ => ?_
        refine takeQ 0 rfl (by kernel_rfl) rfl (by kernel_rfl) fun K hK => ?_
        simp only [List.getElem_toArray, List.getElem_cons_zero, List.getElem_cons_succ]
        go_big_quiet_op
        refine hK _ ?_
        clear hK K
        refine nilQ 1 rfl (by kernel_rfl) (by kernel_rfl) rfl rfl ?_
        simp only [Act.put, List.getElem_toArray, List.getElem_cons_zero, List.getElem_cons_succ, List.setIfInBounds_toArray, List.set_cons_zero, List.set_cons_succ]
        refine takeQ 2 rfl (by kernel_rfl) rfl (by kernel_rfl) fun K hK => ?_
        simp only [List.getElem_toArray, List.getElem_cons_zero, List.getElem_cons_succ]
        go_big_quiet_op
        refine hK _ ?_
        clear hK K
        refine loadQ 3 rfl (by kernel_rfl) (by kernel_rfl) rfl rfl 0 rfl (by kernel_rfl) _ (fun w' hf => by (go_simp <;> with_reducible rfl)) ?_
        simp only [Act.put, List.getElem_toArray, List.getElem_cons_zero, List.getElem_cons_succ, List.setIfInBounds_toArray, List.set_cons_zero, List.set_cons_succ]
        refine takeQ 4 rfl (by kernel_rfl) rfl (by kernel_rfl) fun K hK => ?_
        simp only [List.getElem_toArray, List.getElem_cons_zero, List.getElem_cons_succ]
        go_big_quiet_op
        refine hK _ ?_
        clear hK K
        refine nilQ 5 rfl (by kernel_rfl) (by kernel_rfl) rfl rfl ?_
        simp only [Act.put, List.getElem_toArray, List.getElem_cons_zero, List.getElem_cons_succ, List.setIfInBounds_toArray, List.set_cons_zero, List.set_cons_succ]
        refine takeQ 6 rfl (by kernel_rfl) rfl (by kernel_rfl) fun K hK => ?_
        simp only [List.getElem_toArray, List.getElem_cons_zero, List.getElem_cons_succ]
        go_big_quiet_op
        refine hK _ ?_
        clear hK K
        refine loadQ 7 rfl (by kernel_rfl) (by kernel_rfl) rfl rfl 1 rfl (by kernel_rfl) _ (fun w' hf => by (go_simp <;> with_reducible rfl)) ?_
        simp only [Act.put, List.getElem_toArray, List.getElem_cons_zero, List.getElem_cons_succ, List.setIfInBounds_toArray, List.set_cons_zero, List.set_cons_succ]
        refine stepQ 8 rfl (by kernel_rfl) (by decide) (by kernel_rfl) fun K hK => ?_
        simp only [List.getElem_toArray, List.getElem_cons_zero, List.getElem_cons_succ]
        go_simp
        refine CG.out.mono ?_
        rintro e w2 ⟨rfl, hi2, hw2'⟩
        have hw2 : Wrote [L.sb] w1 w2 := ⟨hw2'.os, hw2'.tape, hw2'.output, hw2'.size, hw2'.block⟩
        clear hw2' CG
        have nps : L.p ≠ L.sb := hbox1.out.ne hO1.out.inb.set (by decide)
        have nbs : b ≠ L.sb := hrow1.ne hO1.out.inb.set (by decide)
        have hbox2 := hbox1.out.wrote hw2 (by simpa using nps)
        refine hK _ _ ⟨⟨fun _ => hbox2.cell 0, fun _ => (hrow1.wrote hw2 (by simpa using nbs)).cell 3, trivial⟩, ?_⟩
        clear hK K
        refine doneQ (by kernel_rfl) (hKQ.out _ _ ?_)
        clear hKQ KQ
        have k6 : w2.cell? ⟨L.p, 6, none⟩ = some (.slice (some ⟨g, 0, none⟩) s.l.length cap) := (hbox2.cell 6).trans (by simp [boxCells, A.vl])
        have hrows2 := not_own hO1.out.rows hw2 (fun x hx hbk => by
          simp at hx; subst hx
          exact block_not_row hO1.out.inb.set (by decide) hO1.out.rows (mem_blk.1 hbk).symm)
        have hroom : s.l.length ≤ 1000 := by have := hO1.out.ok.room; omega
        have CD := hid (sl_Delete hrows2 (by simp [ptrs, Value.oneCell']) k hk (by omega))
        dsimp only at CD
        rw [A.vl] at CD
        go_wp2_with fail
        refine CD.out.mono ?_
        rintro e w3 ⟨v', rfl, hr3, hb3, hw3⟩
        obtain ⟨a3, c3, rfl⟩ := own_slice hr3
        have hbox3 := hbox2.wrote hw3 (fun hm => block_not_row hbox2 (by decide) hrows2 (by rw [← A.vl] at hm; exact (mem_blk.1 hm).symm))
        have k6' : w3.cell? ⟨L.p, 6, none⟩ = some (.slice (some ⟨g, 0, none⟩) s.l.length cap) := (hbox3.cell 6).trans (by simp [boxCells, A.vl])
        have z6 : w3.frozen? ⟨L.p, 6, none⟩ = false := hbox3.frozen 6
        have HR3 := hid hr3
        have HB3 := hid hb3
        clear hr3 hb3 k6 CD
        go_wp2
        go_end0
        rw [hgi.out]
        have hfin := hO1.out.erased k ⟨kd, cl, sq, id, tp, bd, qs, rt, stg⟩ hr hst hw2 hi2 (.slice a3 (s.l.length - 1) c3) (by rw [← A.vl] at hw3; exact hw3) HR3.out (by rw [HB3.out]; exact congrArg Value.ownBlock A.vl.symm)
        have hsg : SS.gone ⟨s, ps, cs⟩ k = ⟨{ s with l := s.l.eraseIdx k }, ps, cs ++ [⟨true, ⟨kd, cl, sq, id, tp, bd, qs, rt, stg⟩⟩]⟩ := by simp [SS.gone, hr]
        rw [hsg]
        exact ⟨rfl, { L with vc := v1, vl := .slice a3 (s.l.length - 1) c3, rb := L.rb.eraseIdx k, W := tog L.W id.toNat }, rfl, rfl, hfin.1, ((Stp.below ((Below.refl _ w).alloc (Nat.le_refl _) _)).trans hst1).trans hfin.2⟩
      · have e2 : (qs != q) = true := by simpa using h2
        rw [if_neg (fun hh => h2 hh.2)] at hgi
        replace hgi := hid hgi
        go_enter Tryz.func143, Tryz.ntmps143
        go_wp2
        refine bodyPost_ret (results_none rfl _ _ _) rfl ?_
        rw [hgi.out]
        exact ⟨rfl, L, rfl, rfl, h, Stp.refl _ _⟩
    · have e1 : (stg != st) = true := by simpa using h1
      rw [if_neg (fun hh => h1 hh.1)] at hgi
      replace hgi := hid hgi
      go_enter Tryz.func143, Tryz.ntmps143
      go_wp2
      refine bodyPost_ret (results_none rfl _ _ _) rfl ?_
      rw [hgi.out]
      exact ⟨rfl, L, rfl, rfl, h, Stp.refl _ _⟩
end Go.Proofs.YtoinabapaeebfaaGreatDoor
namespace Go.Proofs.YtoinabapaeebfaaGreatDoor
open Go.RowKit Go.Shelf

theorem ids_same (l : List RowV) (k : Nat) (r r' : RowV) (h : l[k]? = some r) (h1 : r.stage ≠ 1) (h2 : r'.stage ≠ 1) (h3 : r'.id = r.id) : idsOf (l.set k r') = idsOf l := by
  induction l generalizing k with
  | nil => rfl
  | cons x l ih =>
    cases k with
    | zero =>
      simp at h
      subst h
      simp [idsOf, h1, h2, h3]
    | succ k =>
      simp at h
      have := ih k h
      by_cases hx : x.stage = 1
      · simpa [idsOf, hx] using this
      · simpa [idsOf, hx] using this

/-- The stage of a row under way is set to 3. -/
theorem OB.setStage {w : World} {B : Nat} {L : Lay} {s : OS} {ps : List PackV} {cs : List ChangeV} (h : OB w B L s ps cs) (k b : Nat) (r : RowV) (hb : L.rb[k]? = some b) (hr : s.l[k]? = some r) (hs : r.stage ≠ 1) :
    OB (w.setCell ⟨b, 8, none⟩ (.int .i64 3)) B L { s with l := s.l.set k { r with stage := 3 } } ps cs ∧ Stp L.foot L.foot w (w.setCell ⟨b, 8, none⟩ (.int .i64 3)) := by
  have hrow := h.cells k b r hb hr
  have t := WT.set hrow 8 (.int .i64 3)
  have hbf : b ∈ L.foot := by simp [Lay.foot, List.mem_of_getElem? hb]
  have hst : Wrote L.foot w (w.setCell ⟨b, 8, none⟩ (.int .i64 3)) := Wrote.setCell w _ hbf _
  have hids := ids_same s.l k r { r with stage := 3 } hr hs (by simp) rfl
  refine ⟨⟨Nat.le_trans h.base hst.size, h.box.wt t (by decide), ⟨h.inb.box.wt t (by decide), h.inb.set.wt t (by decide)⟩, ?_, ?_, ?_, ?_, h.nodup, row_wt h.packs t (by decide), row_wt h.chgs t (by decide), h.tz.wrote hst h.gg, h.gg, ?_⟩, hst, fun x hx => .inl hx⟩
  · show SetIs L.W (idsOf (s.l.set k _))
    rw [hids]; exact h.set
  · have := row_wt h.rows t (by decide)
    simpa using this
  · simpa using h.len
  · intro j b' r' h1 h2
    dsimp only at h1 h2
    by_cases e : j = k
    · subst e
      rw [hb] at h1
      cases h1
      rw [List.getElem?_set_self (List.getElem?_eq_some_iff.1 hr).1] at h2
      cases h2
      exact hrow.set 8 _
    · rw [List.getElem?_set_ne (Ne.symm e)] at h2
      refine (h.cells j b' r' h1 h2).set_ne ⟨b, 8, none⟩ (fun hm => ?_) _
      dsimp only at hm
      subst hm
      exact e ((List.getElem?_inj (List.getElem?_eq_some_iff.1 h1).1 h.nodup).1 (h1.trans hb.symm))
  · have hok := h.ok
    refine ⟨hok.win, by simpa using hok.room, hok.seq, hok.id, hok.cl, fun x hx hx1 => ?_, by show (idsOf (s.l.set k _)).Nodup; rw [hids]; exact hok.nodup, by show ((idsOf (s.l.set k _)).length : Int) ≤ _; rw [hids]; exact hok.under⟩
    rcases List.mem_or_eq_of_mem_set hx with hx | hx
    · exact hok.ids x hx hx1
    · subst hx; exact hok.ids r (List.mem_of_getElem? hr) hs

def pubrel (z : Int) : PackV := ⟨6, false, false, 0, [], [], z⟩
def SS.rel (x : SS) (z : Int) : SS := ⟨x.s, x.ps ++ [pubrel z], x.cs⟩
def SS.recv (x : SS) (k : Nat) : SS := match x.s.l[k]? with
  | none => x
  | some r => if r.stage = 2 then ⟨{ x.s with l := x.s.l.set k { r with stage := 3 } }, x.ps, x.cs ++ [⟨false, { r with stage := 3 }⟩]⟩ else x
def SS.pubrec (x : SS) (n z : Int) : SS := if n < 0 then x.rel z else match x.s.l[n.toNat]? with
  | none => x
  | some r => if r.qos = 2 then (x.recv n.toNat).rel z else x

/-- What the three tell. -/
def Told (w : World) (B : Nat) (L : Lay) (X : SS) (e : Ending) (w' : World) : Prop := e = .returned (.tuple #[]) ∧ ∃ L', L'.p = L.p ∧ OB w' B L' X.s X.ps X.cs ∧ Stp L.foot L'.foot w w'

set_option maxRecDepth 100000 in
set_option maxHeartbeats 400000 in
theorem out_puback {w : World} {B : Nat} {L : Lay} {s : OS} {ps : List PackV} {cs : List ChangeV} (h : OB w B L s ps cs) (n z : Int) (hn : n < s.l.length) (hcs : cs.length ≤ 10000) :
    Calls Tryz.prog 89 #[.pointer (some ⟨L.p, 0, none⟩), .int .i64 n, .int .i64 z] w (Told w B L (SS.goneAt ⟨s, ps, cs⟩ n 2 1)) := by
  have CG := hid (out_gone h n 2 1 (by decide) hn hcs)
  obtain ⟨X, hX⟩ : ∃ X, SS.goneAt ⟨s, ps, cs⟩ n 2 1 = X := ⟨_, rfl⟩
  rw [hX] at CG ⊢
  go_enter Tryz.func89, Tryz.ntmps89
  go_wp2_with (go_at_call 143; refine CG.out.mono ?_; rintro e w1 ⟨rfl, L', hp, -, hO, hS⟩)
  go_end0
  exact ⟨rfl, L', hp, hO, hS⟩
set_option maxRecDepth 100000 in
set_option maxHeartbeats 400000 in
theorem out_pubcomp {w : World} {B : Nat} {L : Lay} {s : OS} {ps : List PackV} {cs : List ChangeV} (h : OB w B L s ps cs) (n z : Int) (hn : n < s.l.length) (hcs : cs.length ≤ 10000) :
    Calls Tryz.prog 91 #[.pointer (some ⟨L.p, 0, none⟩), .int .i64 n, .int .i64 z] w (Told w B L (SS.goneAt ⟨s, ps, cs⟩ n 3 2)) := by
  have CG := hid (out_gone h n 3 2 (by decide) hn hcs)
  obtain ⟨X, hX⟩ : ∃ X, SS.goneAt ⟨s, ps, cs⟩ n 3 2 = X := ⟨_, rfl⟩
  rw [hX] at CG ⊢
  go_enter Tryz.func91, Tryz.ntmps91
  go_wp2_with (go_at_call 143; refine CG.out.mono ?_; rintro e w1 ⟨rfl, L', hp, -, hO, hS⟩)
  go_end0
  exact ⟨rfl, L', hp, hO, hS⟩

set_option maxRecDepth 100000 in
set_option maxHeartbeats 1000000 in
theorem out_pubrec {w : World} {B : Nat} {L : Lay} {s : OS} {ps : List PackV} {cs : List ChangeV} (h : OB w B L s ps cs) (n z : Int) (hn : n < s.l.length) (hcs : cs.length ≤ 10000) (hps : ps.length ≤ 10000) (hst : 0 ≤ n → ∀ r, s.l[n.toNat]? = some r → r.stage ≠ 1) :
    Calls Tryz.prog 90 #[.pointer (some ⟨L.p, 0, none⟩), .int .i64 n, .int .i64 z] w (Told w B L (SS.pubrec ⟨s, ps, cs⟩ n z)) := by
  obtain ⟨X, hX⟩ : ∃ X, SS.pubrec ⟨s, ps, cs⟩ n z = X := ⟨_, rfl⟩
  rw [hX]
  by_cases hneg : n < 0
  · have d1 : decide (0 ≤ n) = false := decide_eq_false (by omega)
    have hX2 : X = ⟨s, ps ++ [pubrel z], cs⟩ := by rw [← hX]; simp [SS.pubrec, hneg, SS.rel]
    clear hX
    replace hX2 := hid hX2
    go_enter Tryz.func90, Tryz.ntmps90
    go_wp2_with fail
    refine (out_says (h.alloc _) (pubrel z) w.heap.size (Blk.new_at _ _ _ _ rfl) (by omega)).mono ?_
    rintro e w1 ⟨rfl, v1, hO1, hst1⟩
    go_wp2
    go_end0
    rw [hX2.out]
    exact ⟨rfl, { L with vp := v1 }, rfl, hO1, (Stp.below ((Below.refl _ w).alloc (Nat.le_refl _) _)).trans hst1⟩
  · obtain ⟨k, rfl⟩ : ∃ k : Nat, n = k := ⟨n.toNat, by omega⟩
    have hk : k < s.l.length := by omega
    obtain ⟨r, hr⟩ : ∃ r, s.l[k]? = some r := ⟨_, List.getElem?_eq_getElem hk⟩
    obtain ⟨b, g, cap, hb, A⟩ := h.atRow k r hr
    have hgi : X = if r.qos = 2 then (SS.recv ⟨s, ps, cs⟩ k).rel z else ⟨s, ps, cs⟩ := by rw [← hX]; simp [SS.pubrec, hneg, hr]
    clear hX
    have k6 := A.box
    have ka := A.arr
    have kl := A.lt
    have kc := A.le
    have hrs := hst (by omega) r (by simpa using hr)
    obtain ⟨kd, cl, sq, id, tp, bd, qs, rt, stg⟩ := r
    have c8 : w.cell? ⟨b, 8, none⟩ = some (.int .i64 stg) := A.row.cell 8
    have c6 : w.cell? ⟨b, 6, none⟩ = some (.int .i64 qs) := A.row.cell 6
    dsimp only at hgi hrs
    by_cases h1 : qs = 2
    · subst h1
      rw [if_pos rfl] at hgi
      by_cases h2 : stg = 2
      · subst h2
        have hX2 : X = ⟨{ s with l := s.l.set k ⟨kd, cl, sq, id, tp, bd, 2, rt, 3⟩ }, ps ++ [pubrel z], cs ++ [⟨false, ⟨kd, cl, sq, id, tp, bd, 2, rt, 3⟩⟩]⟩ := by rw [hgi]; simp [SS.recv, hr, SS.rel]
        clear hgi
        replace hX2 := hid hX2
        have c0 : w.cell? ⟨b, 0, none⟩ = some (.int .i64 kd) := A.row.cell 0
        have c1 : w.cell? ⟨b, 1, none⟩ = some (.string ⟨cl.toArray⟩) := A.row.cell 1
        have c2 : w.cell? ⟨b, 2, none⟩ = some (.int .i64 sq) := A.row.cell 2
        have c3 : w.cell? ⟨b, 3, none⟩ = some (.int .i64 id) := A.row.cell 3
        have c4 : w.cell? ⟨b, 4, none⟩ = some (.string ⟨tp.toArray⟩) := A.row.cell 4
        have c5 : w.cell? ⟨b, 5, none⟩ = some (.string ⟨bd.toArray⟩) := A.row.cell 5
        have c7 : w.cell? ⟨b, 7, none⟩ = some (.bool rt) := A.row.cell 7
        have z8 : w.frozen? ⟨b, 8, none⟩ = false := A.row.frozen 8
        have npb : L.p ≠ b := h.box.ne A.row (by decide)
        have ngb : g ≠ b := by
          have hr0 := h.rows
          rw [A.vl] at hr0
          intro e
          exact block_not_row A.row (by decide) hr0 (by simp [Value.ownBlock, e])
        obtain ⟨hO1, hS1⟩ := h.setStage k b _ hb hr (by simp)
        dsimp only at hO1
        have HO1 := hid hO1
        have HS1 := hid hS1
        clear hO1 hS1
        go_enter Tryz.func90, Tryz.ntmps90
        go_wp2_with fail
        refine (out_changes (HO1.out.alloc _) ⟨false, ⟨kd, cl, sq, id, tp, bd, 2, rt, 3⟩⟩ w.heap.size (Blk.new_at _ _ _ _ (by simp)) (by omega)).mono ?_
        rintro e w1 ⟨rfl, v1, hO2, hst2⟩
        go_wp2_with fail
        refine (out_says (hO2.alloc _) (pubrel z) w1.heap.size (Blk.new_at _ _ _ _ rfl) (by omega)).mono ?_
        rintro e w2 ⟨rfl, v2, hO3, hst3⟩
        go_wp2
        go_end0
        rw [hX2.out]
        exact ⟨rfl, { L with vc := v1, vp := v2 }, rfl, hO3, ((HS1.out.trans (Stp.below ((Below.refl _ _).alloc (Nat.le_refl _) _))).trans hst2).trans ((Stp.below ((Below.refl _ w1).alloc (Nat.le_refl _) _)).trans hst3)⟩
      · have e2 : (stg == 2) = false := by simpa using h2
        have hX2 : X = ⟨s, ps ++ [pubrel z], cs⟩ := by rw [hgi]; simp [SS.recv, hr, h2, SS.rel]
        clear hgi
        replace hX2 := hid hX2
        go_enter Tryz.func90, Tryz.ntmps90
        go_wp2_with fail
        refine (out_says (h.alloc _) (pubrel z) w.heap.size (Blk.new_at _ _ _ _ rfl) (by omega)).mono ?_
        rintro e w1 ⟨rfl, v1, hO1, hst1⟩
        go_wp2
        go_end0
        rw [hX2.out]
        exact ⟨rfl, { L with vp := v1 }, rfl, hO1, (Stp.below ((Below.refl _ w).alloc (Nat.le_refl _) _)).trans hst1⟩
    · have e1 : (qs != 2) = true := by simpa using h1
      rw [if_neg h1] at hgi
      replace hgi := hid hgi
      go_enter Tryz.func90, Tryz.ntmps90
      go_wp2
      refine bodyPost_ret (results_none rfl _ _ _) rfl ?_
      rw [hgi.out]
      exact ⟨rfl, L, rfl, h, Stp.refl _ _⟩
end Go.Proofs.YtoinabapaeebfaaGreatDoor
