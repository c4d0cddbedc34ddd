/- Contracts of package outbox (part 11): Send. · Contracts of package outbox (part 12): find. -/
import Derived.Test.YtoinabapaeebfaaGreatDoorPk19
set_option linter.unusedSimpArgs false
set_option linter.unusedVariables false
namespace Go.Proofs.YtoinabapaeebfaaGreatDoor
open Go.RowKit Go.Shelf

/-- What is told, where the session had these numbers. -/
def SS.fin (x : SS) (q i : Int) : SS := ⟨x.s, x.ps, x.cs ++ (if x.s.seq = q ∧ x.s.id = i then [] else [⟨false, x.s.session⟩])⟩
def OS.start (s : OS) : SS := ⟨s, [], []⟩
theorem all_len (x : SS) (h : x.s.l.length ≤ 1000) : x.all.ps.length ≤ x.ps.length + 1000 ∧ x.all.cs.length ≤ x.cs.length + 1000 := by
  have h1 := sends_len x (waitQ (stOf x.s.l) x.s.l.length)
  have h2 : (waitQ (stOf x.s.l) x.s.l.length).length ≤ x.s.l.length := by simpa [waitQ] using List.length_filter_le (fun i => decide (stOf x.s.l i = 1)) (List.range x.s.l.length)
  unfold SS.all
  omega
theorem sends_same (x : SS) (q : List Nat) : (x.sends q).s.client = x.s.client ∧ (x.sends q).s.seq = x.s.seq ∧ (x.sends q).s.window = x.s.window ∧ (x.sends q).s.room = x.s.room := by
  induction q generalizing x with
  | nil => simp [SS.sends]
  | cons i q ih =>
    have h1 := ih (x.send i)
    have h2 := SS.send_alike x i
    exact ⟨h1.1.trans h2.client, h1.2.1.trans h2.seq, h1.2.2.1.trans h2.window, h1.2.2.2.trans h2.room⟩

theorem all_same (x : SS) : x.all.s.client = x.s.client ∧ x.all.s.seq = x.s.seq := ⟨(sends_same x _).1, (sends_same x _).2.1⟩

set_option maxRecDepth 100000 in
set_option maxHeartbeats 1000000 in
theorem out_Send {w : World} {B : Nat} {L : Lay} {s : OS} (h : OB w B L s [] []) (hn : L.vp = .slice none 0 0 ∧ L.vc = .slice none 0 0) :
    Calls Tryz.prog 42 #[.pointer (some ⟨L.p, 0, none⟩)] w fun e w' => ∃ vp vc L', e = .returned (.tuple #[.agg #[vp, vc], .int .i64 0]) ∧
      DidAt w w' L L' (s.start.all.fin s.seq s.id).s vp vc (s.start.all.fin s.seq s.id).ps (s.start.all.fin s.seq s.id).cs := by
  have hs0 := hid (show s.start.s = s from rfl)
  obtain ⟨X, hX⟩ : ∃ X, s.start.all = X := ⟨_, rfl⟩
  have hXl := all_len s.start (by have := h.ok.room; show s.l.length ≤ 1000; omega)
  have hXs := all_same s.start
  have SEND := hid fun (w1 : World) (hb : Below w.heap.size w w1) => by
    have h1 := OB.rebase (L := { L with vp := .slice none 0 0, vc := .slice none 0 0 }) (s := s) (by
      have h0 := h
      obtain ⟨p, ib, sb, vl, vp, vc, rb, W⟩ := L
      dsimp only at hn
      obtain ⟨rfl, rfl⟩ := hn
      exact h0.below hb) (B' := w.heap.size) hb.size
    exact out_send (x0 := s.start) h1 (Nat.zero_le _) (Nat.zero_le _)
  rw [hX] at hXl hXs SEND ⊢
  obtain ⟨Xs, Xp, Xc⟩ := X
  obtain ⟨xcl, xwin, xroom, xseq, xid, xl⟩ := Xs
  obtain ⟨client, window, room, seq, id, l⟩ := s
  obtain ⟨p, ib, sb, vl, vp, vc, rb, W⟩ := L
  dsimp only [OS.start] at hn hXl hXs SEND ⊢
  obtain ⟨rfl, rfl⟩ := hn
  obtain ⟨rfl, rfl⟩ := hXs
  simp only [List.length_nil, Nat.zero_add] at hXl
  clear hX hs0
  have CN := hid fun (w1 : World) (hb : Below w.heap.size w w1) => out_none (h.below hb)
  have CS := hid fun (w1 : World) (hb : Below w.heap.size w w1) => out_Session (h.below hb)
  dsimp only [OS.session, RowV.vals] at CS
  have hp : p < w.heap.size := h.box.lt
  go_enter Tryz.func42, Tryz.ntmps42
  go_wp2_with fail
  refine (CN.out _ ((Below.refl _ w).alloc (Nat.le_refl _) _)).mono ?_
  rintro e w1 ⟨rfl, rfl⟩
  go_wp2_with fail
  refine (CS.out _ ((Below.refl _ w).alloc (Nat.le_refl _) _)).mono ?_
  rintro e w3 ⟨rfl, hb3⟩
  go_wp2_with fail
  have hbw : Below w.heap.size w w3 := ((Below.refl _ w).alloc (Nat.le_refl _) _).trans (hb3.mono (by simp))
  have hz3 : w.heap.size + 1 ≤ w3.heap.size := by have := hb3.size; simp at this; omega
  have hbw2 := hbw.alloc hbw.size (.cells #[.int .i64 1, .string ⟨xcl.toArray⟩, .int .i64 xseq, .int .i64 id, .string ⟨#[]⟩, .string ⟨#[]⟩, .int .i64 0, .bool false, .int .i64 0] 33)
  have bDid := ((Blk.new w #[.slice none 0 0, .slice none 0 0] 53).below hb3).alloc (.cells #[.int .i64 1, .string ⟨xcl.toArray⟩, .int .i64 xseq, .int .i64 id, .string ⟨#[]⟩, .string ⟨#[]⟩, .int .i64 0, .bool false, .int .i64 0] 33)
  have bWas := Blk.new w3 #[.int .i64 1, .string ⟨xcl.toArray⟩, .int .i64 xseq, .int .i64 id, .string ⟨#[]⟩, .string ⟨#[]⟩, .int .i64 0, .bool false, .int .i64 0] 33
  have hB2 := hid bDid
  have hS0 := Stp.below (F := Lay.foot ⟨p, ib, sb, vl, .slice none 0 0, .slice none 0 0, rb, W⟩) hbw2
  refine (SEND.out _ hbw2).mono ?_
  rintro e w4 ⟨rfl, v4, u4, V4, hO4, hst4⟩
  have hfo : ∀ x ∈ (Lay.foot ⟨p, ib, sb, vl, .slice none 0 0, .slice none 0 0, rb, W⟩), x < w.heap.size := h.lt
  have hnw : w3.heap.size ∉ (Lay.foot ⟨p,ib,sb,vl,.slice none 0 0,.slice none 0 0,rb,W⟩) := (fun hx=>by have:=hfo _ hx;omega)
  have hnd : w.heap.size ∉ (Lay.foot ⟨p,ib,sb,vl,.slice none 0 0,.slice none 0 0,rb,W⟩) := (fun hx=>by have:=hfo _ hx;omega)
  have hWas4 := hid (bWas.wrote hst4.wrote hnw)
  have hDid4 := hid (hB2.out.wrote hst4.wrote hnd)
  have hO4 := hid hO4
  have s0 : w4.cell? ⟨w3.heap.size, 0, none⟩ = some (.int .i64 1) := hWas4.out.cell 0
  have s1 : w4.cell? ⟨w3.heap.size, 1, none⟩ = some (.string ⟨xcl.toArray⟩) := hWas4.out.cell 1
  have s2 : w4.cell? ⟨w3.heap.size, 2, none⟩ = some (.int .i64 xseq) := hWas4.out.cell 2
  have s3 : w4.cell? ⟨w3.heap.size, 3, none⟩ = some (.int .i64 id) := hWas4.out.cell 3
  have s4 : w4.cell? ⟨w3.heap.size, 4, none⟩ = some (.string ⟨#[]⟩) := hWas4.out.cell 4
  have s5 : w4.cell? ⟨w3.heap.size, 5, none⟩ = some (.string ⟨#[]⟩) := hWas4.out.cell 5
  have s6 : w4.cell? ⟨w3.heap.size, 6, none⟩ = some (.int .i64 0) := hWas4.out.cell 6
  have s7 : w4.cell? ⟨w3.heap.size, 7, none⟩ = some (.bool false) := hWas4.out.cell 7
  have s8 : w4.cell? ⟨w3.heap.size, 8, none⟩ = some (.int .i64 0) := hWas4.out.cell 8
  go_wp2_with fail
  refine (out_done hO4.out xseq id (by (try dsimp only); omega)).mono ?_
  rintro e w7 ⟨vp, vc, cs', rfl, hcs, hob, hpk, hch, hst7⟩
  have hfin : (SS.fin ⟨⟨xcl, xwin, xroom, xseq, xid, xl⟩, Xp, Xc⟩ xseq id) = ⟨⟨xcl, xwin, xroom, xseq, xid, xl⟩, Xp, cs'⟩ := by rw [hcs]; rfl
  replace hfin := hid hfin
  obtain ⟨ap, cp, rfl⟩ := own_slice hpk
  obtain ⟨ac, cc, rfl⟩ := own_slice hch
  have hst67 := hst4.trans hst7
  have hnd4 := hst4.not hnd (hB2.out.lt)
  have hDid7 := hDid4.out.wrote hst7.wrote hnd4
  have y0 : w7.cell? ⟨w.heap.size, 0, none⟩ = some (.slice none 0 0) := hDid7.cell 0
  have y1 : w7.cell? ⟨w.heap.size, 1, none⟩ = some (.slice none 0 0) := hDid7.cell 1
  have z0 := hDid7.frozen 0
  have z1 := hDid7.frozen 1
  have HPK := hid hpk
  have HCH := hid hch
  clear hpk hch hcs
  go_wp2
  refine bodyPost_gen (fun W' => W'.cell? ⟨w.heap.size, 0, none⟩ = some (.slice ap Xp.length cp) ∧ W'.cell? ⟨w.heap.size, 1, none⟩ = some (.slice ac cs'.length cc) ∧ Wrote [w.heap.size] w7 W') ⟨((hDid7.set 0 _).set 1 _).cell 0, ((hDid7.set 0 _).set 1 _).cell 1, (Wrote.setCell (M := [w.heap.size]) w7 ⟨w.heap.size, 0, none⟩ (by simp) _).trans (Wrote.setCell _ ⟨w.heap.size, 1, none⟩ (by simp) _)⟩ ?_
  rintro W' ⟨e0, e1, hW⟩
  refine bodyPost_ret (v := .tuple #[.agg #[.slice ap Xp.length cp, .slice ac cs'.length cc], .int .i64 0]) (by simp [results, Tryz.results42, go_sem, e0, e1]) rfl ?_
  have hS := (hS0.trans hst67).fresh hW (by simp)
  have hnf7 := hst7.not hnd4 hDid4.out.lt
  have hg1 : 1 ∉ [w.heap.size] := by have := h.tz.lt; simp only [List.mem_singleton]; omega
  rw [hfin.out]
  refine ⟨_, _, _, rfl, ((hob 0 (Nat.zero_le _)).out hW (by simpa using hnf7) hg1).rebase (Nat.le_refl _), ⟨rfl, rfl⟩, rfl, hS, not_own HPK.out hW (fun x hx hb => ?_), not_own HCH.out hW (fun x hx hb => ?_)⟩
  · simp at hx; subst hx
    exact block_not_row hDid7 (by decide) HPK.out (mem_blk.1 hb).symm
  · simp at hx; subst hx
    exact block_not_row hDid7 (by decide) HCH.out (mem_blk.1 hb).symm
end Go.Proofs.YtoinabapaeebfaaGreatDoor
namespace Go.Proofs.YtoinabapaeebfaaGreatDoor
open Go.RowKit Go.Shelf

/-- Is it under way with this ID? -/
def RowV.has (z : Int) (r : RowV) : Bool := decide (r.stage ≠ 1) && decide (r.id = z)

set_option maxRecDepth 100000 in
set_option maxHeartbeats 400000 in
theorem out_find1 (b : Nat) (r : RowV) (z : Int) (c : Nat) (w : World) (h : Blk w b r.vals 33) (hc : Boxed w c 2 (.int .i64 z)) :
    Calls Tryz.prog 145 #[.pointer (some ⟨b, 0, none⟩), .pointer (some ⟨c, 0, none⟩)] w fun e w' => e = .returned (.bool (r.has z)) ∧ Below w.heap.size w w' := by
  have hh : r.has z = (decide (r.stage ≠ 1) && decide (r.id = z)) := rfl
  obtain ⟨st, hst⟩ : ∃ st, r.stage = st := ⟨_, rfl⟩
  obtain ⟨id, hid'⟩ : ∃ st, r.id = st := ⟨_, rfl⟩
  have c8 : w.cell? ⟨b, 8, none⟩ = some (.int .i64 st) := (h.cell 8).trans (by rw [← hst]; rfl)
  have c3 : w.cell? ⟨b, 3, none⟩ = some (.int .i64 id) := (h.cell 3).trans (by rw [← hid']; rfl)
  have k := hc.cell
  rw [hst, hid'] at hh
  by_cases h1 : st = 1
  · subst h1
    rw [hh]
    clear hh hst hid' h hc
    go_enter Tryz.func145, Tryz.ntmps145
    go_wp2
    refine regionQ [(1000, fun w' => w'.cell? ⟨b, 8, none⟩ = some (.int .i64 1))] (by kernel_rfl) ⟨c8, trivial⟩ fun KQ hKQ => ?_
    refine takeQ 0 rfl (by kernel_rfl) rfl (by kernel_rfl) fun K hK => ?_
    simp only [List.getElem_toArray, List.getElem_cons_zero, List.getElem_cons_succ]
    go_big_quiet_op
    refine hK _ ?_
    clear hK K
    refine nilQ 1 rfl (by kernel_rfl) (by kernel_rfl) rfl rfl ?_
    simp only [Act.put, List.getElem_toArray, List.getElem_cons_zero, List.getElem_cons_succ, List.setIfInBounds_toArray, List.set_cons_zero, List.set_cons_succ]
    refine takeQ 2 rfl (by kernel_rfl) rfl (by kernel_rfl) fun K hK => ?_
    simp only [List.getElem_toArray, List.getElem_cons_zero, List.getElem_cons_succ]
    go_big_quiet_op
    refine hK _ ?_
    clear hK K
    refine loadQ 3 rfl (by kernel_rfl) (by kernel_rfl) rfl rfl 0 rfl (by kernel_rfl) _ (fun w' hf => by (go_simp <;> with_reducible rfl)) ?_
    simp only [Act.put, List.getElem_toArray, List.getElem_cons_zero, List.getElem_cons_succ, List.setIfInBounds_toArray, List.set_cons_zero, List.set_cons_succ]
    refine takeQ 4 rfl (by kernel_rfl) rfl (by kernel_rfl) fun K hK => ?_
    simp only [List.getElem_toArray, List.getElem_cons_zero, List.getElem_cons_succ]
    go_big_quiet_op
    refine hK _ ?_
    clear hK K
    refine takeQ 5 rfl (by kernel_rfl) rfl (by kernel_rfl) fun K hK => ?_
    simp only [List.getElem_toArray, List.getElem_cons_zero, List.getElem_cons_succ]
    go_big_quiet_op
    refine hK _ ?_
    clear hK K
    refine skipQ 6 rfl (by kernel_rfl) (by kernel_rfl) ?_
    simp only [Act.put, List.getElem_toArray, List.getElem_cons_zero, List.getElem_cons_succ, List.setIfInBounds_toArray, List.set_cons_zero, List.set_cons_succ]
    refine skipQ 7 rfl (by kernel_rfl) (by kernel_rfl) ?_
    simp only [Act.put, List.getElem_toArray, List.getElem_cons_zero, List.getElem_cons_succ, List.setIfInBounds_toArray, List.set_cons_zero, List.set_cons_succ]
    refine skipQ 8 rfl (by kernel_rfl) (by kernel_rfl) ?_
    simp only [Act.put, List.getElem_toArray, List.getElem_cons_zero, List.getElem_cons_succ, List.setIfInBounds_toArray, List.set_cons_zero, List.set_cons_succ]
    refine skipQ 9 rfl (by kernel_rfl) (by kernel_rfl) ?_
    simp only [Act.put, List.getElem_toArray, List.getElem_cons_zero, List.getElem_cons_succ, List.setIfInBounds_toArray, List.set_cons_zero, List.set_cons_succ]
    refine skipQ 10 rfl (by kernel_rfl) (by kernel_rfl) ?_
    simp only [Act.put, List.getElem_toArray, List.getElem_cons_zero, List.getElem_cons_succ, List.setIfInBounds_toArray, List.set_cons_zero, List.set_cons_succ]
    refine skipQ 11 rfl (by kernel_rfl) (by kernel_rfl) ?_
    simp only [Act.put, List.getElem_toArray, List.getElem_cons_zero, List.getElem_cons_succ, List.setIfInBounds_toArray, List.set_cons_zero, List.set_cons_succ]
    refine takeQ 12 rfl (by kernel_rfl) rfl (by kernel_rfl) fun K hK => ?_
    simp only [List.getElem_toArray, List.getElem_cons_zero, List.getElem_cons_succ]
    go_big_quiet_op
    refine hK _ ?_
    clear hK K
    refine takeQ 13 rfl (by kernel_rfl) rfl (by kernel_rfl) fun K hK => ?_
    simp only [List.getElem_toArray, List.getElem_cons_zero, List.getElem_cons_succ]
    go_big_quiet_op
    refine hK _ ?_
    clear hK K
    refine doneQ (by kernel_rfl) (hKQ.out _ _ ?_)
    clear hKQ KQ
    go_wp2
    go_ret
    exact ⟨by simp, (Below.refl _ w).drew⟩
  · have e1 : (st != 1) = true := by simpa using h1
    have hh2 : r.has z = (id == z) := by
      rw [hh]
      by_cases e : id = z <;> simp [h1, e]
    rw [hh2]
    clear hh hh2 hst hid' h hc
    go_enter Tryz.func145, Tryz.ntmps145
    go_wp2
    refine regionQ [(1000, fun w' => w'.cell? ⟨b, 8, none⟩ = some (.int .i64 st)), (1000, fun w' => w'.cell? ⟨b, 3, none⟩ = some (.int .i64 id)), (1000, fun w' => w'.cell? ⟨c, 0, none⟩ = some (.int .i64 z))] (by kernel_rfl) ⟨c8, c3, k, trivial⟩ fun KQ hKQ => ?_
    refine takeQ 0 rfl (by kernel_rfl) rfl (by kernel_rfl) fun K hK => ?_
    simp only [List.getElem_toArray, List.getElem_cons_zero, List.getElem_cons_succ]
    go_big_quiet_op
    refine hK _ ?_
    clear hK K
    refine nilQ 1 rfl (by kernel_rfl) (by kernel_rfl) rfl rfl ?_
    simp only [Act.put, List.getElem_toArray, List.getElem_cons_zero, List.getElem_cons_succ, List.setIfInBounds_toArray, List.set_cons_zero, List.set_cons_succ]
    refine takeQ 2 rfl (by kernel_rfl) rfl (by kernel_rfl) fun K hK => ?_
    simp only [List.getElem_toArray, List.getElem_cons_zero, List.getElem_cons_succ]
    go_big_quiet_op
    refine hK _ ?_
    clear hK K
    refine loadQ 3 rfl (by kernel_rfl) (by kernel_rfl) rfl rfl 0 rfl (by kernel_rfl) _ (fun w' hf => by (go_simp <;> with_reducible rfl)) ?_
    simp only [Act.put, List.getElem_toArray, List.getElem_cons_zero, List.getElem_cons_succ, List.setIfInBounds_toArray, List.set_cons_zero, List.set_cons_succ]
    refine takeQ 4 rfl (by kernel_rfl) rfl (by kernel_rfl) fun K hK => ?_
    simp only [List.getElem_toArray, List.getElem_cons_zero, List.getElem_cons_succ]
    go_big_quiet_op
    refine hK _ ?_
    clear hK K
    refine takeQ 5 rfl (by kernel_rfl) rfl (by kernel_rfl) fun K hK => ?_
    simp only [List.getElem_toArray, List.getElem_cons_zero, List.getElem_cons_succ]
    go_big_quiet_op
    refine hK _ ?_
    clear hK K
    refine takeQ 6 rfl (by kernel_rfl) rfl (by kernel_rfl) fun K hK => ?_
    simp only [List.getElem_toArray, List.getElem_cons_zero, List.getElem_cons_succ]
    go_big_quiet_op
    refine hK _ ?_
    clear hK K
    refine nilQ 7 rfl (by kernel_rfl) (by kernel_rfl) rfl rfl ?_
    simp only [Act.put, List.getElem_toArray, List.getElem_cons_zero, List.getElem_cons_succ, List.setIfInBounds_toArray, List.set_cons_zero, List.set_cons_succ]
    refine takeQ 8 rfl (by kernel_rfl) rfl (by kernel_rfl) fun K hK => ?_
    simp only [List.getElem_toArray, List.getElem_cons_zero, List.getElem_cons_succ]
    go_big_quiet_op
    refine hK _ ?_
    clear hK K
    refine loadQ 9 rfl (by kernel_rfl) (by kernel_rfl) rfl rfl 1 rfl (by kernel_rfl) _ (fun w' hf => by (go_simp <;> with_reducible rfl)) ?_
    simp only [Act.put, List.getElem_toArray, List.getElem_cons_zero, List.getElem_cons_succ, List.setIfInBounds_toArray, List.set_cons_zero, List.set_cons_succ]
    refine loadQ 10 rfl (by kernel_rfl) (by kernel_rfl) rfl rfl 2 rfl (by kernel_rfl) _ (fun w' hf => by (go_simp <;> with_reducible rfl)) ?_
    simp only [Act.put, List.getElem_toArray, List.getElem_cons_zero, List.getElem_cons_succ, List.setIfInBounds_toArray, List.set_cons_zero, List.set_cons_succ]
    refine takeQ 11 rfl (by kernel_rfl) rfl (by kernel_rfl) fun K hK => ?_
    simp only [List.getElem_toArray, List.getElem_cons_zero, List.getElem_cons_succ]
    go_big_quiet_op
    refine hK _ ?_
    clear hK K
    refine takeQ 12 rfl (by kernel_rfl) rfl (by kernel_rfl) fun K hK => ?_
    simp only [List.getElem_toArray, List.getElem_cons_zero, List.getElem_cons_succ]
    go_big_quiet_op
    refine hK _ ?_
    clear hK K
    refine takeQ 13 rfl (by kernel_rfl) rfl (by kernel_rfl) fun K hK => ?_
    simp only [List.getElem_toArray, List.getElem_cons_zero, List.getElem_cons_succ]
    go_big_quiet_op
    refine hK _ ?_
    clear hK K
    refine doneQ (by kernel_rfl) (hKQ.out _ _ ?_)
    clear hKQ KQ
    go_wp2
    go_ret
    exact ⟨by simp, (Below.refl _ w).drew⟩

theorem idx_step {α : Type} (p : α → Bool) (l : List α) (k : Nat) (hk : k ≤ l.length) (h : ∀ j (hj : j < k), p (l[j]'(by omega)) = false) : (k = l.length → idxOf p l = -1) ∧ (∀ hlt : k < l.length, p l[k] = true → idxOf p l = k) :=
  ⟨fun e => idxOf_none p l (fun x hx => by
    obtain ⟨i, hi, rfl⟩ := List.getElem_of_mem hx
    exact h i (by omega)), fun hlt hp => idxOf_at p l k hlt h hp⟩

set_option maxRecDepth 100000 in
set_option maxHeartbeats 400000 in
theorem out_IndexFunc {w : World} {B : Nat} {L : Lay} {s : OS} {ps : List PackV} {cs : List ChangeV} (h : OB w B L s ps cs) (c : Nat) (z : Int) (hc : Boxed w c 2 (.int .i64 z)) :
    Calls Tryz.prog 144 #[L.vl, .func (.func 145) #[] #[.pointer (some ⟨c, 0, none⟩)]] w fun e w' => e = .returned (.int .i64 (idxOf (RowV.has z) s.l)) ∧ Below w.heap.size w w' := by
  obtain ⟨al, cl, hvl, -⟩ := own_cell h.rows
  rw [hvl]
  obtain ⟨n, hn⟩ : ∃ n : Int, (s.l.length : Int) = n := ⟨_, rfl⟩
  have hlen := h.len
  have hroom : s.l.length ≤ 1000 := by have := h.ok.room; omega
  obtain ⟨Y, hY⟩ : ∃ Y, idxOf (RowV.has z) s.l = Y := ⟨_, rfl⟩
  rw [hY]
  go_enter Tryz.func144, Tryz.ntmps144
  go_wp2
  go_loopw [5, 8] (fun _ i wr => ∃ (k : Nat), i = .int .i64 k ∧ k ≤ s.l.length ∧ Hid (∀ (j : Nat) (r : RowV), j < k → s.l[j]? = some r → r.has z = false) ∧ Below w.heap.size w wr)
    (fun _ i _ => s.l.length - (intOf i).toNat)
  case atStart => exact ⟨0, rfl, Nat.zero_le _, hid (fun j r hj => absurd hj (Nat.not_lt_zero _)), Below.refl _ _⟩
  case round =>
    obtain ⟨k, rfl, hk, hf, hb⟩ := hrel
    have hx := idx_step (RowV.has z) s.l k hk (fun j hj => hf.out j _ hj (List.getElem?_eq_getElem _))
    rcases Nat.lt_or_ge k s.l.length with hlt | hge
    · have dk : decide ((k : Int) < (s.l.length : Int)) = true := decide_eq_true (by omega)
      have hO := h.below hb
      obtain ⟨a', c', he, hal'⟩ := own_cell hO.rows
      rw [hvl] at he
      cases he
      obtain ⟨b, hbk⟩ : ∃ b, L.rb[k]? = some b := ⟨_, List.getElem?_eq_getElem (by omega)⟩
      obtain ⟨g, rfl, hg⟩ := hal' k (.pointer (some ⟨b, 0, none⟩)) (by simp [ptrs, hbk])
      have hrk : s.l[k]? = some s.l[k] := List.getElem?_eq_getElem hlt
      have CF := hid (out_find1 b s.l[k] z c _ (hO.cells k b _ hbk hrk) (boxed_below hc hb))
      obtain ⟨r, hr⟩ : ∃ r, s.l[k] = r := ⟨_, rfl⟩
      rw [hr] at CF hrk
      have hx2 := hid (hx.2 hlt)
      rw [hr] at hx2
      clear hr hx
      cases hrh : r.has z
      · rw [hrh] at CF
        go_wp2_with (go_at_call 145; refine CF.out.mono ?_; rintro e w1 ⟨rfl, hb1⟩)
        go_roundw
        case rel => exact ⟨k + 1, by go_num, by omega, hid (fun j r' hj hr' => by
          rcases Nat.lt_or_ge j k with h1 | h1
          · exact hf.out j r' h1 hr'
          · obtain rfl : j = k := by omega
            rw [hrk] at hr'; cases hr'; exact hrh), hb.trans (hb1.mono hb.size)⟩
        case measure => simp [intOf]; omega
      · rw [hrh] at CF
        have hYk := hx2.out hrh
        go_wp2_with (go_at_call 145; refine CF.out.mono ?_; rintro e w1 ⟨rfl, hb1⟩)
        go_ret
        exact ⟨by rw [← hY, hYk]; rfl, hb.trans (hb1.mono hb.size)⟩
    · have hk2 : k = s.l.length := by omega
      have hYk := hx.1 hk2
      have dk : decide ((k : Int) < (s.l.length : Int)) = false := decide_eq_false (by omega)
      go_wp2
      go_ret
      exact ⟨by rw [← hY, hYk]; rfl, hb⟩

set_option maxRecDepth 100000 in
set_option maxHeartbeats 400000 in
theorem out_find {w : World} {B : Nat} {L : Lay} {s : OS} {ps : List PackV} {cs : List ChangeV} (h : OB w B L s ps cs) (z : Int) :
    Calls Tryz.prog 92 #[.pointer (some ⟨L.p, 0, none⟩), .int .i64 z] w fun e w' => e = .returned (.int .i64 (idxOf (RowV.has z) s.l)) ∧ Below w.heap.size w w' := by
  obtain ⟨al, cl, hvl, -⟩ := own_cell h.rows
  have CI := hid (out_IndexFunc (h.alloc (.cells #[.int .i64 z] 2)) w.heap.size z (Boxed.new w 2 (.int .i64 z)))
  have k6 : ∀ o, (w.alloc o).cell? ⟨L.p, 6, none⟩ = some L.vl := fun o => (h.alloc o).box.cell 6
  rw [hvl] at k6 CI
  go_enter Tryz.func92, Tryz.ntmps92
  go_wp2_with (go_at_call 144; refine CI.out.mono ?_; rintro e w1 ⟨rfl, hb1⟩)
  go_ret
  exact ⟨rfl, ((Below.refl _ w).alloc (Nat.le_refl _) _).trans (hb1.mono (by simp))⟩
end Go.Proofs.YtoinabapaeebfaaGreatDoor
