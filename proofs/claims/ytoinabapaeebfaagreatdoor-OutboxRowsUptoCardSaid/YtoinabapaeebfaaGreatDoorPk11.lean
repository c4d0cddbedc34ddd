/- Contracts of package outbox (part 17): Hear. · Contracts of package outbox (part 19): Anew. -/
import Derived.Test.YtoinabapaeebfaaGreatDoorPk10
set_option linter.unusedSimpArgs false
set_option linter.unusedVariables false
namespace Go.Proofs.YtoinabapaeebfaaGreatDoor
open Go.RowKit Go.Shelf

structure Nigh (x y : SS) : Prop where
  client : y.s.client = x.s.client
  seq : y.s.seq = x.s.seq
  ps : y.ps.length ≤ x.ps.length + 1
  cs : y.cs.length ≤ x.cs.length + 1
theorem Nigh.refl (x : SS) : Nigh x x := ⟨rfl, rfl, by omega, by omega⟩
theorem gone_nigh (x : SS) (n st q : Int) : Nigh x (x.goneAt n st q) := by
  unfold SS.goneAt
  split
  · exact Nigh.refl x
  · unfold SS.goneIf
    split
    · exact Nigh.refl x
    · split
      · unfold SS.gone
        split
        · exact Nigh.refl x
        · exact ⟨rfl, rfl, by simp, by simp⟩
      · exact Nigh.refl x
theorem pubrec_nigh (x : SS) (n z : Int) : Nigh x (x.pubrec n z) := by
  unfold SS.pubrec
  split
  · exact ⟨rfl, rfl, by simp [SS.rel], by simp [SS.rel]⟩
  · split
    · exact Nigh.refl x
    · split
      · unfold SS.recv
        split
        · exact ⟨rfl, rfl, by simp [SS.rel], by simp [SS.rel]⟩
        · split
          · exact ⟨rfl, rfl, by simp [SS.rel], by simp [SS.rel]⟩
          · exact ⟨rfl, rfl, by simp [SS.rel], by simp [SS.rel]⟩
      · exact Nigh.refl x


/-- What is heard. -/
def SS.ack (x : SS) (z : Int) : SS := x.goneAt (idxOf (RowV.has z) x.s.l) 2 1
def SS.rec' (x : SS) (z : Int) : SS := x.pubrec (idxOf (RowV.has z) x.s.l) z
def SS.comp (x : SS) (z : Int) : SS := x.goneAt (idxOf (RowV.has z) x.s.l) 3 2
theorem has_stage {l : List RowV} {z : Int} {r : RowV} (h : l[(idxOf (RowV.has z) l).toNat]? = some r) (h0 : 0 ≤ idxOf (RowV.has z) l) : r.stage ≠ 1 := by
  induction l with
  | nil => simp at h
  | cons x l ih =>
    unfold idxOf at h h0
    by_cases hx : RowV.has z x = true
    · rw [if_pos hx] at h
      simp at h
      subst h
      simp [RowV.has] at hx
      exact hx.1
    · rw [if_neg hx] at h h0
      dsimp only at h h0
      by_cases hr : idxOf (RowV.has z) l < 0
      · rw [if_pos hr] at h0; omega
      · rw [if_neg hr] at h
        have e : (idxOf (RowV.has z) l + 1).toNat = (idxOf (RowV.has z) l).toNat + 1 := by omega
        rw [e] at h
        simp at h
        exact ih h (by omega)

theorem func_not_nil (f : Nat) (W : World) : (binOp .eql 164 (.func (.func f) #[] #[]) .nilFunc).run Tryz.prog W = .ok (.bool false) W := by
  have h : (Op.equal 164 (.func (.func f) #[] #[]) .nilFunc).run Tryz.prog W = .ok false W := by
    unfold Op.equal
    rw [show Op.maxDepth = (Op.maxDepth - 1) + 1 from rfl]
    unfold Op.equalIn
    simp [run_underlying Tryz.underlying164]
  simp [binOp, h]
set_option maxRecDepth 100000 in
set_option maxHeartbeats 1000000 in
theorem out_Hear4 {w : World} {B : Nat} {L : Lay} {s : OS} (h : OB w B L s [] []) (hn : L.vp = .slice none 0 0 ∧ L.vc = .slice none 0 0) (z : Int) (hz : 1 ≤ z ∧ z ≤ 65535) :
    Calls Tryz.prog 43 #[.pointer (some ⟨L.p, 0, none⟩), .int .i64 4, .int .i64 z] w fun e w' => ∃ vp vc L', e = .returned (.tuple #[.agg #[vp, vc], .int .i64 0]) ∧
      DidAt w w' L L' ((s.start.ack z).all.fin s.seq s.id).s vp vc ((s.start.ack z).all.fin s.seq s.id).ps ((s.start.ack z).all.fin s.seq s.id).cs := by
  obtain ⟨Y, hY⟩ : ∃ Y, s.start.ack z = Y := ⟨_, rfl⟩
  have hYn : Nigh s.start Y := by rw [← hY]; exact (gone_nigh _ _ _ _)
  obtain ⟨X, hX⟩ : ∃ X, Y.all = X := ⟨_, rfl⟩
  have hXs := all_same Y
  have hil := idxOf_lt (RowV.has z) s.l
  obtain ⟨n, hnn⟩ : ∃ n, idxOf (RowV.has z) s.l = n := ⟨_, rfl⟩
  have hXl : Y.s.l.length ≤ 1000 → X.ps.length ≤ Y.ps.length + 1000 ∧ X.cs.length ≤ Y.cs.length + 1000 := fun hh => by rw [← hX]; exact all_len Y hh
  rw [hX] at hXs
  rw [hY, hX]
  have HST : 0 ≤ n → ∀ r, s.l[n.toNat]? = some r → r.stage ≠ 1 := fun h0 r hr => by rw [← hnn] at hr h0; exact has_stage hr h0
  have TOLD := hid fun (w1 : World) (hb : Below w.heap.size w w1) => by
    have h1 := OB.rebase (L := { L with vp := .slice none 0 0, vc := .slice none 0 0 }) (s := s) (by
      have h0 := h
      obtain ⟨p, ib, sb, vl, vp, vc, rb, W⟩ := L
      dsimp only at hn
      obtain ⟨rfl, rfl⟩ := hn
      exact h0.below hb) (B' := w.heap.size) hb.size
    exact (out_puback h1 n z (by have:=hil.1;rw[hnn]at this;exact this) (by simp))
  have hYY : s.start.ack z = (SS.goneAt ⟨s,[],[]⟩ n 2 1) := by unfold SS.ack; show _ = (SS.goneAt ⟨s,[],[]⟩ n 2 1); rw [← hnn]; rfl
  have hYe : (SS.goneAt ⟨s,[],[]⟩ n 2 1) = Y := by rw [← hYY]; exact hY
  have FIND := hid fun (w1 : World) (hb : Below w.heap.size w w1) => out_find (h.below hb) z
  rw [hnn] at FIND hil
  rw [hYe] at TOLD
  clear hY hYY hYe
  obtain ⟨Xs, Xp, Xc⟩ := X
  obtain ⟨xcl, xwin, xroom, xseq, xid, xl⟩ := Xs
  have hYcl := hYn.client
  have hYsq := hYn.seq
  have hYps := hYn.ps
  have hYcs := hYn.cs
  obtain ⟨client, window, room, seq, id, l⟩ := s
  obtain ⟨p, ib, sb, vl, vp, vc, rb, W⟩ := L
  dsimp only [OS.start] at hn hXl hXs hYcl hYsq hYps hYcs TOLD FIND hil ⊢
  obtain ⟨rfl, rfl⟩ := hn
  have ex1 : xcl = client := hXs.1.trans hYcl
  have ex2 : xseq = seq := hXs.2.trans hYsq
  subst ex1 ex2
  simp only [List.length_nil, Nat.zero_add] at hYps hYcs
  clear hnn hYn hXs hYcl hYsq
  have CN := hid fun (w1 : World) (hb : Below w.heap.size w w1) => out_none (h.below hb)
  have CS := hid fun (w1 : World) (hb : Below w.heap.size w w1) => out_Session (h.below hb)
  dsimp only [OS.session, RowV.vals] at CS
  have hp : p < w.heap.size := h.box.lt
  have d1 : decide (z < 1) = false := decide_eq_false (by omega)
  have d2 : decide (65535 < z) = false := decide_eq_false (by omega)
  have hX := hid hX
  have hmm := @run_makeMap Tryz.prog
  have hnil := func_not_nil 89
  have hb0 : ((w.alloc (.cells #[.slice none 0 0, .slice none 0 0] 53)).alloc (.map #[] 0)).heap[w.heap.size + 1]? = some (.map #[] 0) := by simpa using World.alloc_heap_new (w.alloc (.cells #[.slice none 0 0, .slice none 0 0] 53)) (.map #[] 0)
  have B0 : Below w.heap.size w ((w.alloc (.cells #[.slice none 0 0, .slice none 0 0] 53)).alloc (.map #[] 0)) := ((Below.refl _ w).alloc (Nat.le_refl _) _).alloc (by simp) _
  have D0 := (Blk.new w #[.slice none 0 0, .slice none 0 0] 53).alloc (.map #[] 0)
  have Z0 : ((w.alloc (.cells #[.slice none 0 0, .slice none 0 0] 53)).alloc (.map #[] 0)).heap.size ≥ w.heap.size + 2 := by simp
  go_enter Tryz.func43, Tryz.ntmps43
  go_wp2_with (
    refine wpList_insert_new _ rfl _ _ _ 166 rfl 41 164 .i64 Tryz.underlying166 Tryz.underlying41 _ _ _ rfl (by with_reducible assumption) _ _ rfl rfl (by simp [putE]) ?_
    intro w1 hb1 hg1
    replace B0 := B0.grown hg1 B0.size (fun k hk => by cases hk; omega)
    replace D0 := D0.keep (hg1.block _ (by omega) (by simp))
    replace Z0 := Nat.le_trans Z0 hg1.size
    try (have HL := run_lookup_at (P := Tryz.prog) 166 41 164 .i64 Tryz.underlying166 Tryz.underlying41 _ _ _ _ hb1 4 _ 0 rfl false)
    clear hg1)
  refine (CN.out _ B0).mono ?_
  rintro e w2 ⟨rfl, rfl⟩
  go_wp2_with fail
  refine (CS.out _ B0).mono ?_
  rintro e w3 ⟨rfl, hb3⟩
  have hfo : ∀ x ∈ (Lay.foot ⟨p, ib, sb, vl, .slice none 0 0, .slice none 0 0, rb, W⟩), x < w.heap.size := h.lt
  have hbw : Below w.heap.size w w3 := B0.trans (hb3.mono B0.size)
  have hz3 : w.heap.size + 1 ≤ w3.heap.size := by have := hb3.size; omega
  have hbw2 := hid (hbw.alloc hbw.size (.cells #[.int .i64 1, .string ⟨xcl.toArray⟩, .int .i64 xseq, .int .i64 id, .string ⟨#[]⟩, .string ⟨#[]⟩, .int .i64 0, .bool false, .int .i64 0] 33))
  have bDid := hid ((D0.below hb3).alloc (.cells #[.int .i64 1, .string ⟨xcl.toArray⟩, .int .i64 xseq, .int .i64 id, .string ⟨#[]⟩, .string ⟨#[]⟩, .int .i64 0, .bool false, .int .i64 0] 33))
  have bWas := hid (Blk.new w3 #[.int .i64 1, .string ⟨xcl.toArray⟩, .int .i64 xseq, .int .i64 id, .string ⟨#[]⟩, .string ⟨#[]⟩, .int .i64 0, .bool false, .int .i64 0] 33)
  clear hb0 hb1 hmm D0 B0
  go_wp2_with fail
  refine (FIND.out _ hbw2.out).mono ?_
  rintro e w4 ⟨rfl, hb4⟩
  have hbw4 := hid (hbw2.out.trans (hb4.mono hbw2.out.size))
  have bDid4 := hid (bDid.out.below hb4)
  have bWas4 := hid (bWas.out.below hb4)
  clear bDid bWas
  have hz4 : w3.heap.size + 1 ≤ w4.heap.size := by have := hb4.size; simp at this; omega
  go_wp2_with fail
  refine (TOLD.out _ hbw4.out).mono ?_
  rintro e w5 ⟨rfl, L5, hp5, hO5, hS5⟩
  have bDid5 := hid (bDid4.out.wrote hS5.wrote (fun hx => by have := hfo _ hx; omega))
  have bWas5 := hid (bWas4.out.wrote hS5.wrote (fun hx => by have := hfo _ hx; omega))
  have hnW := hS5.not (x := w3.heap.size) (fun hx => by have := hfo _ hx; omega) (by omega)
  have hnD := hS5.not (x := w.heap.size) (fun hx => by have := hfo _ hx; omega) (by omega)
  have hYl : Y.s.l.length ≤ 1000 := by have := hO5.ok.room; omega
  have hXl := hXl hYl
  have hS0 := (Stp.below (F := Lay.foot ⟨p, ib, sb, vl, .slice none 0 0, .slice none 0 0, rb, W⟩) hbw4.out).trans hS5
  have SEND := hid fun (W' : World) (hW : W' = w5) => by
    subst hW
    have h1 := out_send (x0 := Y) hO5 (by omega) (by omega)
    rw [hX.out] at h1
    exact h1
  obtain ⟨p5, ib5, sb5, vl5, vp5, vc5, rb5, W5⟩ := L5
  dsimp only at hp5
  replace hp5 := hp5.symm
  subst hp5
  dsimp only at SEND
  go_wp2_with fail
  refine (SEND.out _ rfl).mono ?_
  rintro e w4 ⟨rfl, v4, u4, V4, hO4, hst4⟩
  have hfo : ∀ x ∈ (Lay.foot ⟨p, ib, sb, vl, .slice none 0 0, .slice none 0 0, rb, W⟩), x < w.heap.size := h.lt
  have hnw : w3.heap.size ∉ (Lay.foot ⟨p,ib5,sb5,vl5,vp5,vc5,rb5,W5⟩) := hnW
  have hnd : w.heap.size ∉ (Lay.foot ⟨p,ib5,sb5,vl5,vp5,vc5,rb5,W5⟩) := hnD
  have hWas4 := hid (bWas5.out.wrote hst4.wrote hnw)
  have hDid4 := hid (bDid5.out.wrote hst4.wrote hnd)
  have hO4 := hid hO4
  have s0 : w4.cell? ⟨w3.heap.size, 0, none⟩ = some (.int .i64 1) := hWas4.out.cell 0
  have s1 : w4.cell? ⟨w3.heap.size, 1, none⟩ = some (.string ⟨xcl.toArray⟩) := hWas4.out.cell 1
  have s2 : w4.cell? ⟨w3.heap.size, 2, none⟩ = some (.int .i64 xseq) := hWas4.out.cell 2
  have s3 : w4.cell? ⟨w3.heap.size, 3, none⟩ = some (.int .i64 id) := hWas4.out.cell 3
  have s4 : w4.cell? ⟨w3.heap.size, 4, none⟩ = some (.string ⟨#[]⟩) := hWas4.out.cell 4
  have s5 : w4.cell? ⟨w3.heap.size, 5, none⟩ = some (.string ⟨#[]⟩) := hWas4.out.cell 5
  have s6 : w4.cell? ⟨w3.heap.size, 6, none⟩ = some (.int .i64 0) := hWas4.out.cell 6
  have s7 : w4.cell? ⟨w3.heap.size, 7, none⟩ = some (.bool false) := hWas4.out.cell 7
  have s8 : w4.cell? ⟨w3.heap.size, 8, none⟩ = some (.int .i64 0) := hWas4.out.cell 8
  go_wp2_with fail
  refine (out_done hO4.out xseq id (by (try dsimp only); omega)).mono ?_
  rintro e w7 ⟨vp, vc, cs', rfl, hcs, hob, hpk, hch, hst7⟩
  have hfin : (SS.fin ⟨⟨xcl, xwin, xroom, xseq, xid, xl⟩, Xp, Xc⟩ xseq id) = ⟨⟨xcl, xwin, xroom, xseq, xid, xl⟩, Xp, cs'⟩ := by rw [hcs]; rfl
  replace hfin := hid hfin
  obtain ⟨ap, cp, rfl⟩ := own_slice hpk
  obtain ⟨ac, cc, rfl⟩ := own_slice hch
  have hst67 := hst4.trans hst7
  have hnd4 := hst4.not hnd (bDid5.out.lt)
  have hDid7 := hDid4.out.wrote hst7.wrote hnd4
  have y0 : w7.cell? ⟨w.heap.size, 0, none⟩ = some (.slice none 0 0) := hDid7.cell 0
  have y1 : w7.cell? ⟨w.heap.size, 1, none⟩ = some (.slice none 0 0) := hDid7.cell 1
  have z0 := hDid7.frozen 0
  have z1 := hDid7.frozen 1
  have HPK := hid hpk
  have HCH := hid hch
  clear hpk hch hcs
  go_wp2
  refine bodyPost_gen (fun W' => W'.cell? ⟨w.heap.size, 0, none⟩ = some (.slice ap Xp.length cp) ∧ W'.cell? ⟨w.heap.size, 1, none⟩ = some (.slice ac cs'.length cc) ∧ Wrote [w.heap.size] w7 W') ⟨((hDid7.set 0 _).set 1 _).cell 0, ((hDid7.set 0 _).set 1 _).cell 1, (Wrote.setCell (M := [w.heap.size]) w7 ⟨w.heap.size, 0, none⟩ (by simp) _).trans (Wrote.setCell _ ⟨w.heap.size, 1, none⟩ (by simp) _)⟩ ?_
  rintro W' ⟨e0, e1, hW⟩
  refine bodyPost_ret (v := .tuple #[.agg #[.slice ap Xp.length cp, .slice ac cs'.length cc], .int .i64 0]) (by simp [results, Tryz.results43, go_sem, e0, e1]) rfl ?_
  have hS := (hS0.trans hst67).fresh hW (by simp)
  have hnf7 := hst7.not hnd4 hDid4.out.lt
  have hg1 : 1 ∉ [w.heap.size] := by have := h.tz.lt; simp only [List.mem_singleton]; omega
  rw [hfin.out]
  refine ⟨_, _, _, rfl, ((hob 0 (Nat.zero_le _)).out hW (by simpa using hnf7) hg1).rebase (Nat.le_refl _), ⟨rfl, rfl⟩, rfl, hS, not_own HPK.out hW (fun x hx hb => ?_), not_own HCH.out hW (fun x hx hb => ?_)⟩
  · simp at hx; subst hx
    exact block_not_row hDid7 (by decide) HPK.out (mem_blk.1 hb).symm
  · simp at hx; subst hx
    exact block_not_row hDid7 (by decide) HCH.out (mem_blk.1 hb).symm
set_option maxRecDepth 100000 in
set_option maxHeartbeats 1000000 in
theorem out_Hear5 {w : World} {B : Nat} {L : Lay} {s : OS} (h : OB w B L s [] []) (hn : L.vp = .slice none 0 0 ∧ L.vc = .slice none 0 0) (z : Int) (hz : 1 ≤ z ∧ z ≤ 65535) :
    Calls Tryz.prog 43 #[.pointer (some ⟨L.p, 0, none⟩), .int .i64 5, .int .i64 z] w fun e w' => ∃ vp vc L', e = .returned (.tuple #[.agg #[vp, vc], .int .i64 0]) ∧
      DidAt w w' L L' ((s.start.rec' z).all.fin s.seq s.id).s vp vc ((s.start.rec' z).all.fin s.seq s.id).ps ((s.start.rec' z).all.fin s.seq s.id).cs := by
  obtain ⟨Y, hY⟩ : ∃ Y, s.start.rec' z = Y := ⟨_, rfl⟩
  have hYn : Nigh s.start Y := by rw [← hY]; exact (pubrec_nigh _ _ _)
  obtain ⟨X, hX⟩ : ∃ X, Y.all = X := ⟨_, rfl⟩
  have hXs := all_same Y
  have hil := idxOf_lt (RowV.has z) s.l
  obtain ⟨n, hnn⟩ : ∃ n, idxOf (RowV.has z) s.l = n := ⟨_, rfl⟩
  have hXl : Y.s.l.length ≤ 1000 → X.ps.length ≤ Y.ps.length + 1000 ∧ X.cs.length ≤ Y.cs.length + 1000 := fun hh => by rw [← hX]; exact all_len Y hh
  rw [hX] at hXs
  rw [hY, hX]
  have HST : 0 ≤ n → ∀ r, s.l[n.toNat]? = some r → r.stage ≠ 1 := fun h0 r hr => by rw [← hnn] at hr h0; exact has_stage hr h0
  have TOLD := hid fun (w1 : World) (hb : Below w.heap.size w w1) => by
    have h1 := OB.rebase (L := { L with vp := .slice none 0 0, vc := .slice none 0 0 }) (s := s) (by
      have h0 := h
      obtain ⟨p, ib, sb, vl, vp, vc, rb, W⟩ := L
      dsimp only at hn
      obtain ⟨rfl, rfl⟩ := hn
      exact h0.below hb) (B' := w.heap.size) hb.size
    exact (out_pubrec h1 n z (by have:=hil.1;rw[hnn]at this;exact this) (by simp) (by simp) HST)
  have hYY : s.start.rec' z = (SS.pubrec ⟨s,[],[]⟩ n z) := by unfold SS.rec'; show _ = (SS.pubrec ⟨s,[],[]⟩ n z); rw [← hnn]; rfl
  have hYe : (SS.pubrec ⟨s,[],[]⟩ n z) = Y := by rw [← hYY]; exact hY
  have FIND := hid fun (w1 : World) (hb : Below w.heap.size w w1) => out_find (h.below hb) z
  rw [hnn] at FIND hil
  rw [hYe] at TOLD
  clear hY hYY hYe
  obtain ⟨Xs, Xp, Xc⟩ := X
  obtain ⟨xcl, xwin, xroom, xseq, xid, xl⟩ := Xs
  have hYcl := hYn.client
  have hYsq := hYn.seq
  have hYps := hYn.ps
  have hYcs := hYn.cs
  obtain ⟨client, window, room, seq, id, l⟩ := s
  obtain ⟨p, ib, sb, vl, vp, vc, rb, W⟩ := L
  dsimp only [OS.start] at hn hXl hXs hYcl hYsq hYps hYcs TOLD FIND hil ⊢
  obtain ⟨rfl, rfl⟩ := hn
  have ex1 : xcl = client := hXs.1.trans hYcl
  have ex2 : xseq = seq := hXs.2.trans hYsq
  subst ex1 ex2
  simp only [List.length_nil, Nat.zero_add] at hYps hYcs
  clear hnn hYn hXs hYcl hYsq
  have CN := hid fun (w1 : World) (hb : Below w.heap.size w w1) => out_none (h.below hb)
  have CS := hid fun (w1 : World) (hb : Below w.heap.size w w1) => out_Session (h.below hb)
  dsimp only [OS.session, RowV.vals] at CS
  have hp : p < w.heap.size := h.box.lt
  have d1 : decide (z < 1) = false := decide_eq_false (by omega)
  have d2 : decide (65535 < z) = false := decide_eq_false (by omega)
  have hX := hid hX
  have hmm := @run_makeMap Tryz.prog
  have hnil := func_not_nil 90
  have hb0 : ((w.alloc (.cells #[.slice none 0 0, .slice none 0 0] 53)).alloc (.map #[] 0)).heap[w.heap.size + 1]? = some (.map #[] 0) := by simpa using World.alloc_heap_new (w.alloc (.cells #[.slice none 0 0, .slice none 0 0] 53)) (.map #[] 0)
  have B0 : Below w.heap.size w ((w.alloc (.cells #[.slice none 0 0, .slice none 0 0] 53)).alloc (.map #[] 0)) := ((Below.refl _ w).alloc (Nat.le_refl _) _).alloc (by simp) _
  have D0 := (Blk.new w #[.slice none 0 0, .slice none 0 0] 53).alloc (.map #[] 0)
  have Z0 : ((w.alloc (.cells #[.slice none 0 0, .slice none 0 0] 53)).alloc (.map #[] 0)).heap.size ≥ w.heap.size + 2 := by simp
  go_enter Tryz.func43, Tryz.ntmps43
  go_wp2_with (
    refine wpList_insert_new _ rfl _ _ _ 166 rfl 41 164 .i64 Tryz.underlying166 Tryz.underlying41 _ _ _ rfl (by with_reducible assumption) _ _ rfl rfl (by simp [putE]) ?_
    intro w1 hb1 hg1
    replace B0 := B0.grown hg1 B0.size (fun k hk => by cases hk; omega)
    replace D0 := D0.keep (hg1.block _ (by omega) (by simp))
    replace Z0 := Nat.le_trans Z0 hg1.size
    try (have HL := run_lookup_at (P := Tryz.prog) 166 41 164 .i64 Tryz.underlying166 Tryz.underlying41 _ _ _ _ hb1 5 _ 1 rfl false)
    clear hg1)
  refine (CN.out _ B0).mono ?_
  rintro e w2 ⟨rfl, rfl⟩
  go_wp2_with fail
  refine (CS.out _ B0).mono ?_
  rintro e w3 ⟨rfl, hb3⟩
  have hfo : ∀ x ∈ (Lay.foot ⟨p, ib, sb, vl, .slice none 0 0, .slice none 0 0, rb, W⟩), x < w.heap.size := h.lt
  have hbw : Below w.heap.size w w3 := B0.trans (hb3.mono B0.size)
  have hz3 : w.heap.size + 1 ≤ w3.heap.size := by have := hb3.size; omega
  have hbw2 := hid (hbw.alloc hbw.size (.cells #[.int .i64 1, .string ⟨xcl.toArray⟩, .int .i64 xseq, .int .i64 id, .string ⟨#[]⟩, .string ⟨#[]⟩, .int .i64 0, .bool false, .int .i64 0] 33))
  have bDid := hid ((D0.below hb3).alloc (.cells #[.int .i64 1, .string ⟨xcl.toArray⟩, .int .i64 xseq, .int .i64 id, .string ⟨#[]⟩, .string ⟨#[]⟩, .int .i64 0, .bool false, .int .i64 0] 33))
  have bWas := hid (Blk.new w3 #[.int .i64 1, .string ⟨xcl.toArray⟩, .int .i64 xseq, .int .i64 id, .string ⟨#[]⟩, .string ⟨#[]⟩, .int .i64 0, .bool false, .int .i64 0] 33)
  clear hb0 hb1 hmm D0 B0
  go_wp2_with fail
  refine (FIND.out _ hbw2.out).mono ?_
  rintro e w4 ⟨rfl, hb4⟩
  have hbw4 := hid (hbw2.out.trans (hb4.mono hbw2.out.size))
  have bDid4 := hid (bDid.out.below hb4)
  have bWas4 := hid (bWas.out.below hb4)
  clear bDid bWas
  have hz4 : w3.heap.size + 1 ≤ w4.heap.size := by have := hb4.size; simp at this; omega
  go_wp2_with fail
  refine (TOLD.out _ hbw4.out).mono ?_
  rintro e w5 ⟨rfl, L5, hp5, hO5, hS5⟩
  have bDid5 := hid (bDid4.out.wrote hS5.wrote (fun hx => by have := hfo _ hx; omega))
  have bWas5 := hid (bWas4.out.wrote hS5.wrote (fun hx => by have := hfo _ hx; omega))
  have hnW := hS5.not (x := w3.heap.size) (fun hx => by have := hfo _ hx; omega) (by omega)
  have hnD := hS5.not (x := w.heap.size) (fun hx => by have := hfo _ hx; omega) (by omega)
  have hYl : Y.s.l.length ≤ 1000 := by have := hO5.ok.room; omega
  have hXl := hXl hYl
  have hS0 := (Stp.below (F := Lay.foot ⟨p, ib, sb, vl, .slice none 0 0, .slice none 0 0, rb, W⟩) hbw4.out).trans hS5
  have SEND := hid fun (W' : World) (hW : W' = w5) => by
    subst hW
    have h1 := out_send (x0 := Y) hO5 (by omega) (by omega)
    rw [hX.out] at h1
    exact h1
  obtain ⟨p5, ib5, sb5, vl5, vp5, vc5, rb5, W5⟩ := L5
  dsimp only at hp5
  replace hp5 := hp5.symm
  subst hp5
  dsimp only at SEND
  go_wp2_with fail
  refine (SEND.out _ rfl).mono ?_
  rintro e w4 ⟨rfl, v4, u4, V4, hO4, hst4⟩
  have hfo : ∀ x ∈ (Lay.foot ⟨p, ib, sb, vl, .slice none 0 0, .slice none 0 0, rb, W⟩), x < w.heap.size := h.lt
  have hnw : w3.heap.size ∉ (Lay.foot ⟨p,ib5,sb5,vl5,vp5,vc5,rb5,W5⟩) := hnW
  have hnd : w.heap.size ∉ (Lay.foot ⟨p,ib5,sb5,vl5,vp5,vc5,rb5,W5⟩) := hnD
  have hWas4 := hid (bWas5.out.wrote hst4.wrote hnw)
  have hDid4 := hid (bDid5.out.wrote hst4.wrote hnd)
  have hO4 := hid hO4
  have s0 : w4.cell? ⟨w3.heap.size, 0, none⟩ = some (.int .i64 1) := hWas4.out.cell 0
  have s1 : w4.cell? ⟨w3.heap.size, 1, none⟩ = some (.string ⟨xcl.toArray⟩) := hWas4.out.cell 1
  have s2 : w4.cell? ⟨w3.heap.size, 2, none⟩ = some (.int .i64 xseq) := hWas4.out.cell 2
  have s3 : w4.cell? ⟨w3.heap.size, 3, none⟩ = some (.int .i64 id) := hWas4.out.cell 3
  have s4 : w4.cell? ⟨w3.heap.size, 4, none⟩ = some (.string ⟨#[]⟩) := hWas4.out.cell 4
  have s5 : w4.cell? ⟨w3.heap.size, 5, none⟩ = some (.string ⟨#[]⟩) := hWas4.out.cell 5
  have s6 : w4.cell? ⟨w3.heap.size, 6, none⟩ = some (.int .i64 0) := hWas4.out.cell 6
  have s7 : w4.cell? ⟨w3.heap.size, 7, none⟩ = some (.bool false) := hWas4.out.cell 7
  have s8 : w4.cell? ⟨w3.heap.size, 8, none⟩ = some (.int .i64 0) := hWas4.out.cell 8
  go_wp2_with fail
  refine (out_done hO4.out xseq id (by (try dsimp only); omega)).mono ?_
  rintro e w7 ⟨vp, vc, cs', rfl, hcs, hob, hpk, hch, hst7⟩
  have hfin : (SS.fin ⟨⟨xcl, xwin, xroom, xseq, xid, xl⟩, Xp, Xc⟩ xseq id) = ⟨⟨xcl, xwin, xroom, xseq, xid, xl⟩, Xp, cs'⟩ := by rw [hcs]; rfl
  replace hfin := hid hfin
  obtain ⟨ap, cp, rfl⟩ := own_slice hpk
  obtain ⟨ac, cc, rfl⟩ := own_slice hch
  have hst67 := hst4.trans hst7
  have hnd4 := hst4.not hnd (bDid5.out.lt)
  have hDid7 := hDid4.out.wrote hst7.wrote hnd4
  have y0 : w7.cell? ⟨w.heap.size, 0, none⟩ = some (.slice none 0 0) := hDid7.cell 0
  have y1 : w7.cell? ⟨w.heap.size, 1, none⟩ = some (.slice none 0 0) := hDid7.cell 1
  have z0 := hDid7.frozen 0
  have z1 := hDid7.frozen 1
  have HPK := hid hpk
  have HCH := hid hch
  clear hpk hch hcs
  go_wp2
  refine bodyPost_gen (fun W' => W'.cell? ⟨w.heap.size, 0, none⟩ = some (.slice ap Xp.length cp) ∧ W'.cell? ⟨w.heap.size, 1, none⟩ = some (.slice ac cs'.length cc) ∧ Wrote [w.heap.size] w7 W') ⟨((hDid7.set 0 _).set 1 _).cell 0, ((hDid7.set 0 _).set 1 _).cell 1, (Wrote.setCell (M := [w.heap.size]) w7 ⟨w.heap.size, 0, none⟩ (by simp) _).trans (Wrote.setCell _ ⟨w.heap.size, 1, none⟩ (by simp) _)⟩ ?_
  rintro W' ⟨e0, e1, hW⟩
  refine bodyPost_ret (v := .tuple #[.agg #[.slice ap Xp.length cp, .slice ac cs'.length cc], .int .i64 0]) (by simp [results, Tryz.results43, go_sem, e0, e1]) rfl ?_
  have hS := (hS0.trans hst67).fresh hW (by simp)
  have hnf7 := hst7.not hnd4 hDid4.out.lt
  have hg1 : 1 ∉ [w.heap.size] := by have := h.tz.lt; simp only [List.mem_singleton]; omega
  rw [hfin.out]
  refine ⟨_, _, _, rfl, ((hob 0 (Nat.zero_le _)).out hW (by simpa using hnf7) hg1).rebase (Nat.le_refl _), ⟨rfl, rfl⟩, rfl, hS, not_own HPK.out hW (fun x hx hb => ?_), not_own HCH.out hW (fun x hx hb => ?_)⟩
  · simp at hx; subst hx
    exact block_not_row hDid7 (by decide) HPK.out (mem_blk.1 hb).symm
  · simp at hx; subst hx
    exact block_not_row hDid7 (by decide) HCH.out (mem_blk.1 hb).symm
set_option maxRecDepth 100000 in
set_option maxHeartbeats 1000000 in
theorem out_Hear7 {w : World} {B : Nat} {L : Lay} {s : OS} (h : OB w B L s [] []) (hn : L.vp = .slice none 0 0 ∧ L.vc = .slice none 0 0) (z : Int) (hz : 1 ≤ z ∧ z ≤ 65535) :
    Calls Tryz.prog 43 #[.pointer (some ⟨L.p, 0, none⟩), .int .i64 7, .int .i64 z] w fun e w' => ∃ vp vc L', e = .returned (.tuple #[.agg #[vp, vc], .int .i64 0]) ∧
      DidAt w w' L L' ((s.start.comp z).all.fin s.seq s.id).s vp vc ((s.start.comp z).all.fin s.seq s.id).ps ((s.start.comp z).all.fin s.seq s.id).cs := by
  obtain ⟨Y, hY⟩ : ∃ Y, s.start.comp z = Y := ⟨_, rfl⟩
  have hYn : Nigh s.start Y := by rw [← hY]; exact (gone_nigh _ _ _ _)
  obtain ⟨X, hX⟩ : ∃ X, Y.all = X := ⟨_, rfl⟩
  have hXs := all_same Y
  have hil := idxOf_lt (RowV.has z) s.l
  obtain ⟨n, hnn⟩ : ∃ n, idxOf (RowV.has z) s.l = n := ⟨_, rfl⟩
  have hXl : Y.s.l.length ≤ 1000 → X.ps.length ≤ Y.ps.length + 1000 ∧ X.cs.length ≤ Y.cs.length + 1000 := fun hh => by rw [← hX]; exact all_len Y hh
  rw [hX] at hXs
  rw [hY, hX]
  have HST : 0 ≤ n → ∀ r, s.l[n.toNat]? = some r → r.stage ≠ 1 := fun h0 r hr => by rw [← hnn] at hr h0; exact has_stage hr h0
  have TOLD := hid fun (w1 : World) (hb : Below w.heap.size w w1) => by
    have h1 := OB.rebase (L := { L with vp := .slice none 0 0, vc := .slice none 0 0 }) (s := s) (by
      have h0 := h
      obtain ⟨p, ib, sb, vl, vp, vc, rb, W⟩ := L
      dsimp only at hn
      obtain ⟨rfl, rfl⟩ := hn
      exact h0.below hb) (B' := w.heap.size) hb.size
    exact (out_pubcomp h1 n z (by have:=hil.1;rw[hnn]at this;exact this) (by simp))
  have hYY : s.start.comp z = (SS.goneAt ⟨s,[],[]⟩ n 3 2) := by unfold SS.comp; show _ = (SS.goneAt ⟨s,[],[]⟩ n 3 2); rw [← hnn]; rfl
  have hYe : (SS.goneAt ⟨s,[],[]⟩ n 3 2) = Y := by rw [← hYY]; exact hY
  have FIND := hid fun (w1 : World) (hb : Below w.heap.size w w1) => out_find (h.below hb) z
  rw [hnn] at FIND hil
  rw [hYe] at TOLD
  clear hY hYY hYe
  obtain ⟨Xs, Xp, Xc⟩ := X
  obtain ⟨xcl, xwin, xroom, xseq, xid, xl⟩ := Xs
  have hYcl := hYn.client
  have hYsq := hYn.seq
  have hYps := hYn.ps
  have hYcs := hYn.cs
  obtain ⟨client, window, room, seq, id, l⟩ := s
  obtain ⟨p, ib, sb, vl, vp, vc, rb, W⟩ := L
  dsimp only [OS.start] at hn hXl hXs hYcl hYsq hYps hYcs TOLD FIND hil ⊢
  obtain ⟨rfl, rfl⟩ := hn
  have ex1 : xcl = client := hXs.1.trans hYcl
  have ex2 : xseq = seq := hXs.2.trans hYsq
  subst ex1 ex2
  simp only [List.length_nil, Nat.zero_add] at hYps hYcs
  clear hnn hYn hXs hYcl hYsq
  have CN := hid fun (w1 : World) (hb : Below w.heap.size w w1) => out_none (h.below hb)
  have CS := hid fun (w1 : World) (hb : Below w.heap.size w w1) => out_Session (h.below hb)
  dsimp only [OS.session, RowV.vals] at CS
  have hp : p < w.heap.size := h.box.lt
  have d1 : decide (z < 1) = false := decide_eq_false (by omega)
  have d2 : decide (65535 < z) = false := decide_eq_false (by omega)
  have hX := hid hX
  have hmm := @run_makeMap Tryz.prog
  have hnil := func_not_nil 91
  have hb0 : ((w.alloc (.cells #[.slice none 0 0, .slice none 0 0] 53)).alloc (.map #[] 0)).heap[w.heap.size + 1]? = some (.map #[] 0) := by simpa using World.alloc_heap_new (w.alloc (.cells #[.slice none 0 0, .slice none 0 0] 53)) (.map #[] 0)
  have B0 : Below w.heap.size w ((w.alloc (.cells #[.slice none 0 0, .slice none 0 0] 53)).alloc (.map #[] 0)) := ((Below.refl _ w).alloc (Nat.le_refl _) _).alloc (by simp) _
  have D0 := (Blk.new w #[.slice none 0 0, .slice none 0 0] 53).alloc (.map #[] 0)
  have Z0 : ((w.alloc (.cells #[.slice none 0 0, .slice none 0 0] 53)).alloc (.map #[] 0)).heap.size ≥ w.heap.size + 2 := by simp
  go_enter Tryz.func43, Tryz.ntmps43
  go_wp2_with (
    refine wpList_insert_new _ rfl _ _ _ 166 rfl 41 164 .i64 Tryz.underlying166 Tryz.underlying41 _ _ _ rfl (by with_reducible assumption) _ _ rfl rfl (by simp [putE]) ?_
    intro w1 hb1 hg1
    replace B0 := B0.grown hg1 B0.size (fun k hk => by cases hk; omega)
    replace D0 := D0.keep (hg1.block _ (by omega) (by simp))
    replace Z0 := Nat.le_trans Z0 hg1.size
    try (have HL := run_lookup_at (P := Tryz.prog) 166 41 164 .i64 Tryz.underlying166 Tryz.underlying41 _ _ _ _ hb1 7 _ 2 rfl false)
    clear hg1)
  refine (CN.out _ B0).mono ?_
  rintro e w2 ⟨rfl, rfl⟩
  go_wp2_with fail
  refine (CS.out _ B0).mono ?_
  rintro e w3 ⟨rfl, hb3⟩
  have hfo : ∀ x ∈ (Lay.foot ⟨p, ib, sb, vl, .slice none 0 0, .slice none 0 0, rb, W⟩), x < w.heap.size := h.lt
  have hbw : Below w.heap.size w w3 := B0.trans (hb3.mono B0.size)
  have hz3 : w.heap.size + 1 ≤ w3.heap.size := by have := hb3.size; omega
  have hbw2 := hid (hbw.alloc hbw.size (.cells #[.int .i64 1, .string ⟨xcl.toArray⟩, .int .i64 xseq, .int .i64 id, .string ⟨#[]⟩, .string ⟨#[]⟩, .int .i64 0, .bool false, .int .i64 0] 33))
  have bDid := hid ((D0.below hb3).alloc (.cells #[.int .i64 1, .string ⟨xcl.toArray⟩, .int .i64 xseq, .int .i64 id, .string ⟨#[]⟩, .string ⟨#[]⟩, .int .i64 0, .bool false, .int .i64 0] 33))
  have bWas := hid (Blk.new w3 #[.int .i64 1, .string ⟨xcl.toArray⟩, .int .i64 xseq, .int .i64 id, .string ⟨#[]⟩, .string ⟨#[]⟩, .int .i64 0, .bool false, .int .i64 0] 33)
  clear hb0 hb1 hmm D0 B0
  go_wp2_with fail
  refine (FIND.out _ hbw2.out).mono ?_
  rintro e w4 ⟨rfl, hb4⟩
  have hbw4 := hid (hbw2.out.trans (hb4.mono hbw2.out.size))
  have bDid4 := hid (bDid.out.below hb4)
  have bWas4 := hid (bWas.out.below hb4)
  clear bDid bWas
  have hz4 : w3.heap.size + 1 ≤ w4.heap.size := by have := hb4.size; simp at this; omega
  go_wp2_with fail
  refine (TOLD.out _ hbw4.out).mono ?_
  rintro e w5 ⟨rfl, L5, hp5, hO5, hS5⟩
  have bDid5 := hid (bDid4.out.wrote hS5.wrote (fun hx => by have := hfo _ hx; omega))
  have bWas5 := hid (bWas4.out.wrote hS5.wrote (fun hx => by have := hfo _ hx; omega))
  have hnW := hS5.not (x := w3.heap.size) (fun hx => by have := hfo _ hx; omega) (by omega)
  have hnD := hS5.not (x := w.heap.size) (fun hx => by have := hfo _ hx; omega) (by omega)
  have hYl : Y.s.l.length ≤ 1000 := by have := hO5.ok.room; omega
  have hXl := hXl hYl
  have hS0 := (Stp.below (F := Lay.foot ⟨p, ib, sb, vl, .slice none 0 0, .slice none 0 0, rb, W⟩) hbw4.out).trans hS5
  have SEND := hid fun (W' : World) (hW : W' = w5) => by
    subst hW
    have h1 := out_send (x0 := Y) hO5 (by omega) (by omega)
    rw [hX.out] at h1
    exact h1
  obtain ⟨p5, ib5, sb5, vl5, vp5, vc5, rb5, W5⟩ := L5
  dsimp only at hp5
  replace hp5 := hp5.symm
  subst hp5
  dsimp only at SEND
  go_wp2_with fail
  refine (SEND.out _ rfl).mono ?_
  rintro e w4 ⟨rfl, v4, u4, V4, hO4, hst4⟩
  have hfo : ∀ x ∈ (Lay.foot ⟨p, ib, sb, vl, .slice none 0 0, .slice none 0 0, rb, W⟩), x < w.heap.size := h.lt
  have hnw : w3.heap.size ∉ (Lay.foot ⟨p,ib5,sb5,vl5,vp5,vc5,rb5,W5⟩) := hnW
  have hnd : w.heap.size ∉ (Lay.foot ⟨p,ib5,sb5,vl5,vp5,vc5,rb5,W5⟩) := hnD
  have hWas4 := hid (bWas5.out.wrote hst4.wrote hnw)
  have hDid4 := hid (bDid5.out.wrote hst4.wrote hnd)
  have hO4 := hid hO4
  have s0 : w4.cell? ⟨w3.heap.size, 0, none⟩ = some (.int .i64 1) := hWas4.out.cell 0
  have s1 : w4.cell? ⟨w3.heap.size, 1, none⟩ = some (.string ⟨xcl.toArray⟩) := hWas4.out.cell 1
  have s2 : w4.cell? ⟨w3.heap.size, 2, none⟩ = some (.int .i64 xseq) := hWas4.out.cell 2
  have s3 : w4.cell? ⟨w3.heap.size, 3, none⟩ = some (.int .i64 id) := hWas4.out.cell 3
  have s4 : w4.cell? ⟨w3.heap.size, 4, none⟩ = some (.string ⟨#[]⟩) := hWas4.out.cell 4
  have s5 : w4.cell? ⟨w3.heap.size, 5, none⟩ = some (.string ⟨#[]⟩) := hWas4.out.cell 5
  have s6 : w4.cell? ⟨w3.heap.size, 6, none⟩ = some (.int .i64 0) := hWas4.out.cell 6
  have s7 : w4.cell? ⟨w3.heap.size, 7, none⟩ = some (.bool false) := hWas4.out.cell 7
  have s8 : w4.cell? ⟨w3.heap.size, 8, none⟩ = some (.int .i64 0) := hWas4.out.cell 8
  go_wp2_with fail
  refine (out_done hO4.out xseq id (by (try dsimp only); omega)).mono ?_
  rintro e w7 ⟨vp, vc, cs', rfl, hcs, hob, hpk, hch, hst7⟩
  have hfin : (SS.fin ⟨⟨xcl, xwin, xroom, xseq, xid, xl⟩, Xp, Xc⟩ xseq id) = ⟨⟨xcl, xwin, xroom, xseq, xid, xl⟩, Xp, cs'⟩ := by rw [hcs]; rfl
  replace hfin := hid hfin
  obtain ⟨ap, cp, rfl⟩ := own_slice hpk
  obtain ⟨ac, cc, rfl⟩ := own_slice hch
  have hst67 := hst4.trans hst7
  have hnd4 := hst4.not hnd (bDid5.out.lt)
  have hDid7 := hDid4.out.wrote hst7.wrote hnd4
  have y0 : w7.cell? ⟨w.heap.size, 0, none⟩ = some (.slice none 0 0) := hDid7.cell 0
  have y1 : w7.cell? ⟨w.heap.size, 1, none⟩ = some (.slice none 0 0) := hDid7.cell 1
  have z0 := hDid7.frozen 0
  have z1 := hDid7.frozen 1
  have HPK := hid hpk
  have HCH := hid hch
  clear hpk hch hcs
  go_wp2
  refine bodyPost_gen (fun W' => W'.cell? ⟨w.heap.size, 0, none⟩ = some (.slice ap Xp.length cp) ∧ W'.cell? ⟨w.heap.size, 1, none⟩ = some (.slice ac cs'.length cc) ∧ Wrote [w.heap.size] w7 W') ⟨((hDid7.set 0 _).set 1 _).cell 0, ((hDid7.set 0 _).set 1 _).cell 1, (Wrote.setCell (M := [w.heap.size]) w7 ⟨w.heap.size, 0, none⟩ (by simp) _).trans (Wrote.setCell _ ⟨w.heap.size, 1, none⟩ (by simp) _)⟩ ?_
  rintro W' ⟨e0, e1, hW⟩
  refine bodyPost_ret (v := .tuple #[.agg #[.slice ap Xp.length cp, .slice ac cs'.length cc], .int .i64 0]) (by simp [results, Tryz.results43, go_sem, e0, e1]) rfl ?_
  have hS := (hS0.trans hst67).fresh hW (by simp)
  have hnf7 := hst7.not hnd4 hDid4.out.lt
  have hg1 : 1 ∉ [w.heap.size] := by have := h.tz.lt; simp only [List.mem_singleton]; omega
  rw [hfin.out]
  refine ⟨_, _, _, rfl, ((hob 0 (Nat.zero_le _)).out hW (by simpa using hnf7) hg1).rebase (Nat.le_refl _), ⟨rfl, rfl⟩, rfl, hS, not_own HPK.out hW (fun x hx hb => ?_), not_own HCH.out hW (fun x hx hb => ?_)⟩
  · simp at hx; subst hx
    exact block_not_row hDid7 (by decide) HPK.out (mem_blk.1 hb).symm
  · simp at hx; subst hx
    exact block_not_row hDid7 (by decide) HCH.out (mem_blk.1 hb).symm
end Go.Proofs.YtoinabapaeebfaaGreatDoor
namespace Go.Proofs.YtoinabapaeebfaaGreatDoor
open Go.RowKit Go.Shelf


/-- What is said again of a row. -/
def anewP (r : RowV) : List PackV := if r.stage = 2 then [r.pub true] else if r.stage = 3 then [pubrel r.id] else []
def OS.again (s : OS) : SS := ⟨s, s.l.flatMap anewP, []⟩
theorem anew_len (l : List RowV) : (l.flatMap anewP).length ≤ l.length := by
  induction l with
  | nil => simp
  | cons r l ih =>
    rw [List.flatMap_cons, List.length_append, List.length_cons]
    have : (anewP r).length ≤ 1 := by unfold anewP; split <;> (try split) <;> simp
    omega
theorem anew_take (l : List RowV) (k : Nat) (r : RowV) (h : l[k]? = some r) : (l.take (k + 1)).flatMap anewP = (l.take k).flatMap anewP ++ anewP r := by
  rw [List.take_add_one, h]
  simp

set_option maxRecDepth 100000 in
set_option maxHeartbeats 2000000 in
theorem out_Anew {w : World} {B : Nat} {L : Lay} {s : OS} (h : OB w B L s [] []) (hn : L.vp = .slice none 0 0 ∧ L.vc = .slice none 0 0) :
    Calls Tryz.prog 48 #[.pointer (some ⟨L.p, 0, none⟩)] w fun e w' => ∃ vp vc L', e = .returned (.tuple #[.agg #[vp, vc], .int .i64 0]) ∧
      DidAt w w' L L' (s.again.all.fin s.seq s.id).s vp vc (s.again.all.fin s.seq s.id).ps (s.again.all.fin s.seq s.id).cs := by
  obtain ⟨X, hX⟩ : ∃ X, s.again.all = X := ⟨_, rfl⟩
  have hroom : s.l.length ≤ 1000 := by have := h.ok.room; omega
  have hXl := all_len s.again hroom
  have hXs := all_same s.again
  rw [hX] at hXl hXs ⊢
  have hal := anew_len s.l
  obtain ⟨Xs, Xp, Xc⟩ := X
  obtain ⟨xcl, xwin, xroom, xseq, xid, xl⟩ := Xs
  obtain ⟨client, window, room, seq, id, l⟩ := s
  obtain ⟨p, ib, sb, vl, vp, vc, rb, W⟩ := L
  dsimp only [OS.again] at hn hXl hXs hal hroom hX ⊢
  obtain ⟨rfl, rfl⟩ := hn
  have ex1 : xcl = client := hXs.1
  have ex2 : xseq = seq := hXs.2
  subst ex1 ex2
  simp only [List.length_nil, Nat.zero_add] at hXl
  clear hXs
  replace h := OB.rebase (L := ⟨p, ib, sb, vl, .slice none 0 0, .slice none 0 0, rb, W⟩) h (Nat.le_refl _)
  have CN := hid fun (w1 : World) (hb : Below w.heap.size w w1) => out_none (h.below hb)
  have CS := hid fun (w1 : World) (hb : Below w.heap.size w w1) => out_Session (h.below hb)
  dsimp only [OS.session, RowV.vals] at CS
  have hX := hid hX
  have hp : p < w.heap.size := h.box.lt
  have hfo0 : ∀ x ∈ (Lay.foot ⟨p, ib, sb, vl, .slice none 0 0, .slice none 0 0, rb, W⟩), x < w.heap.size := h.lt
  go_enter Tryz.func48, Tryz.ntmps48
  go_wp2_with fail
  refine (CN.out _ ((Below.refl _ w).alloc (Nat.le_refl _) _)).mono ?_
  rintro e w1 ⟨rfl, rfl⟩
  go_wp2_with fail
  refine (CS.out _ ((Below.refl _ w).alloc (Nat.le_refl _) _)).mono ?_
  rintro e w3 ⟨rfl, hb3⟩
  have hbw : Below w.heap.size w w3 := ((Below.refl _ w).alloc (Nat.le_refl _) _).trans (hb3.mono (by simp))
  have hz3 : w.heap.size + 1 ≤ w3.heap.size := by have := hb3.size; simp at this; omega
  have hbw2 := hid (hbw.alloc hbw.size (.cells #[.int .i64 1, .string ⟨xcl.toArray⟩, .int .i64 xseq, .int .i64 id, .string ⟨#[]⟩, .string ⟨#[]⟩, .int .i64 0, .bool false, .int .i64 0] 33))
  have bDid := hid (((Blk.new w #[.slice none 0 0, .slice none 0 0] 53).below hb3).alloc (.cells #[.int .i64 1, .string ⟨xcl.toArray⟩, .int .i64 xseq, .int .i64 id, .string ⟨#[]⟩, .string ⟨#[]⟩, .int .i64 0, .bool false, .int .i64 0] 33))
  have bWas := hid (Blk.new w3 #[.int .i64 1, .string ⟨xcl.toArray⟩, .int .i64 xseq, .int .i64 id, .string ⟨#[]⟩, .string ⟨#[]⟩, .int .i64 0, .bool false, .int .i64 0] 33)
  have hO3 := hid (h.below hbw2.out)
  obtain ⟨al, cl, hvl, -⟩ := own_cell h.rows
  dsimp only at hvl
  subst hvl
  have m6 : ∀ o, (w3.alloc o).cell? ⟨p, 6, none⟩ = some (.slice al l.length cl) := fun o => ((h.below hbw).alloc o).box.cell 6
  go_wp2_with fail
  obtain ⟨W3, hW3⟩ : ∃ W3, w3.alloc (.cells #[.int .i64 1, .string ⟨xcl.toArray⟩, .int .i64 xseq, .int .i64 id, .string ⟨#[]⟩, .string ⟨#[]⟩, .int .i64 0, .bool false, .int .i64 0] 33) = W3 := ⟨_, rfl⟩
  have hzW : W3.heap.size = w3.heap.size + 1 := by rw [← hW3]; simp
  rw [hW3] at hbw2 bDid bWas hO3 ⊢
  clear hW3 m6
  go_loopw [17] (fun i wr => ∃ (k : Nat) (v : Value), i = .int .i64 k ∧ k ≤ l.length ∧ Hid (OB wr w.heap.size ⟨p, ib, sb, .slice al l.length cl, v, .slice none 0 0, rb, W⟩ ⟨xcl, window, room, xseq, id, l⟩ ((l.take k).flatMap anewP) []) ∧ Hid (Stp (Lay.foot ⟨p, ib, sb, .slice al l.length cl, .slice none 0 0, .slice none 0 0, rb, W⟩) (Lay.foot ⟨p, ib, sb, .slice al l.length cl, v, .slice none 0 0, rb, W⟩) W3 wr)) (fun i _ => l.length - (intOf i).toNat)
  case atStart => exact ⟨0, _, rfl, Nat.zero_le _, hO3, hid (Stp.refl _ _)⟩
  case round =>
    obtain ⟨k, v, rfl, hk, hOk, hSk⟩ := hrel
    rcases Nat.lt_or_ge k l.length with hlt | hge
    · have dk : decide ((k : Int) < (l.length : Int)) = true := decide_eq_true (by omega)
      obtain ⟨r, hr⟩ : ∃ r, l[k]? = some r := ⟨_, List.getElem?_eq_getElem hlt⟩
      obtain ⟨b, g, cap, hb, A⟩ := hOk.out.atRow k r hr
      have hvA := A.vl
      dsimp only at hvA
      cases hvA
      have ka := A.arr
      have kl := A.le
      have hrow := hid A.row
      have hnk := hid (anew_take l k r hr)
      have c8 : wr.cell? ⟨b, 8, none⟩ = some (.int .i64 r.stage) := A.row.cell 8
      have c3 : wr.cell? ⟨b, 3, none⟩ = some (.int .i64 r.id) := A.row.cell 3
      have hlk : ((l.take k).flatMap anewP).length ≤ 1000 := by have h1 := anew_len (l.take k); have h2 : (l.take k).length ≤ l.length := (by rw [List.length_take]; exact Nat.min_le_right _ _); omega
      clear A
      by_cases h2 : r.stage = 2
      · have e2 : (r.stage == 2) = true := by simpa using h2
        have han : anewP r = [r.pub true] := by unfold anewP; rw [if_pos h2]
        rw [h2] at c8
        go_wp2_with fail
        refine (out_publish b r true _ hrow.out).mono ?_
        rintro e w5 ⟨rfl, hb5⟩
        go_wp2_with (refine wpList_plain rfl fun _ hK => wp_slice_one _ rfl ePack (by decide) (by decide) _ rfl rfl (hK _ _ ?_))
        refine (out_says ((hOk.out.below hb5).alloc _) (r.pub true) w5.heap.size (Blk.new _ _ _) (by omega)).mono ?_
        rintro e w6 ⟨rfl, v6, hO6, hst6⟩
        have hO6 := hid hO6
        go_wp2
        go_roundw
        case rel => exact ⟨k + 1, v6, by go_num, by omega, by rw [hnk.out, han]; exact hO6, hid (hSk.out.trans ((Stp.below hb5).trans ((Stp.below ((Below.refl _ _).alloc (Nat.le_refl _) _)).trans hst6)))⟩
        case measure => simp [intOf]; omega
      · have e2 : (r.stage == 2) = false := by simpa using h2
        by_cases h3 : r.stage = 3
        · have han : anewP r = [pubrel r.id] := by unfold anewP; rw [if_neg h2, if_pos h3]
          rw [h3] at c8
          go_wp2_with fail
          refine (out_says (hOk.out.alloc _) (pubrel r.id) wr.heap.size (Blk.new_at _ _ _ _ rfl) (by omega)).mono ?_
          rintro e w6 ⟨rfl, v6, hO6, hst6⟩
          have hO6 := hid hO6
          go_wp2
          go_roundw
          case rel => exact ⟨k + 1, v6, by go_num, by omega, by rw [hnk.out, han]; exact hO6, hid (hSk.out.trans ((Stp.below ((Below.refl _ _).alloc (Nat.le_refl _) _)).trans hst6))⟩
          case measure => simp [intOf]; omega
        · have e3 : (r.stage == 3) = false := by simpa using h3
          have han : anewP r = [] := by unfold anewP; rw [if_neg h2, if_neg h3]
          go_wp2
          go_roundw
          case rel => exact ⟨k + 1, v, by go_num, by omega, by rw [hnk.out, han, List.append_nil]; exact hOk, hSk⟩
          case measure => simp [intOf]; omega
    · obtain rfl : k = l.length := by omega
      have dk : decide ((l.length : Int) < (l.length : Int)) = false := by simp
      rw [List.take_length] at hOk
      have bDidw := hid (bDid.out.wrote hSk.out.wrote (fun hx => by have := hfo0 _ hx; omega))
      have bWasw := hid (bWas.out.wrote hSk.out.wrote (fun hx => by have := hfo0 _ hx; omega))
      have hnW := hSk.out.not (x := w3.heap.size) (fun hx => by have := hfo0 _ hx; omega) (by omega)
      have hnD := hSk.out.not (x := w.heap.size) (fun hx => by have := hfo0 _ hx; omega) (by omega)
      have hS0 := (Stp.below (F := Lay.foot ⟨p, ib, sb, .slice al l.length cl, .slice none 0 0, .slice none 0 0, rb, W⟩) hbw2.out).trans hSk.out
      have SEND := hid fun (W' : World) (hW : W' = wr) => by
        subst hW
        have h1 := out_send (x0 := ⟨⟨xcl, window, room, xseq, id, l⟩, l.flatMap anewP, []⟩) hOk.out (by show (l.flatMap anewP).length ≤ 1000; omega) (by simp)
        rw [hX.out] at h1
        exact h1
      dsimp only at SEND
      go_wp2_with fail
      refine (SEND.out _ rfl).mono ?_
      rintro e w4 ⟨rfl, v4, u4, V4, hO4, hst4⟩
      have hfo : ∀ x ∈ (Lay.foot ⟨p, ib, sb, .slice al l.length cl, .slice none 0 0, .slice none 0 0, rb, W⟩), x < w.heap.size := h.lt
      have hnw : w3.heap.size ∉ (Lay.foot ⟨p,ib,sb,.slice al l.length cl,v,.slice none 0 0,rb,W⟩) := hnW
      have hnd : w.heap.size ∉ (Lay.foot ⟨p,ib,sb,.slice al l.length cl,v,.slice none 0 0,rb,W⟩) := hnD
      have hWas4 := hid (bWasw.out.wrote hst4.wrote hnw)
      have hDid4 := hid (bDidw.out.wrote hst4.wrote hnd)
      have hO4 := hid hO4
      have s0 : w4.cell? ⟨w3.heap.size, 0, none⟩ = some (.int .i64 1) := hWas4.out.cell 0
      have s1 : w4.cell? ⟨w3.heap.size, 1, none⟩ = some (.string ⟨xcl.toArray⟩) := hWas4.out.cell 1
      have s2 : w4.cell? ⟨w3.heap.size, 2, none⟩ = some (.int .i64 xseq) := hWas4.out.cell 2
      have s3 : w4.cell? ⟨w3.heap.size, 3, none⟩ = some (.int .i64 id) := hWas4.out.cell 3
      have s4 : w4.cell? ⟨w3.heap.size, 4, none⟩ = some (.string ⟨#[]⟩) := hWas4.out.cell 4
      have s5 : w4.cell? ⟨w3.heap.size, 5, none⟩ = some (.string ⟨#[]⟩) := hWas4.out.cell 5
      have s6 : w4.cell? ⟨w3.heap.size, 6, none⟩ = some (.int .i64 0) := hWas4.out.cell 6
      have s7 : w4.cell? ⟨w3.heap.size, 7, none⟩ = some (.bool false) := hWas4.out.cell 7
      have s8 : w4.cell? ⟨w3.heap.size, 8, none⟩ = some (.int .i64 0) := hWas4.out.cell 8
      go_wp2_with fail
      refine (out_done hO4.out xseq id (by (try dsimp only); omega)).mono ?_
      rintro e w7 ⟨vp, vc, cs', rfl, hcs, hob, hpk, hch, hst7⟩
      have hfin : (SS.fin ⟨⟨xcl, xwin, xroom, xseq, xid, xl⟩, Xp, Xc⟩ xseq id) = ⟨⟨xcl, xwin, xroom, xseq, xid, xl⟩, Xp, cs'⟩ := by rw [hcs]; rfl
      replace hfin := hid hfin
      obtain ⟨ap, cp, rfl⟩ := own_slice hpk
      obtain ⟨ac, cc, rfl⟩ := own_slice hch
      have hst67 := hst4.trans hst7
      have hnd4 := hst4.not hnd (bDidw.out.lt)
      have hDid7 := hDid4.out.wrote hst7.wrote hnd4
      have y0 : w7.cell? ⟨w.heap.size, 0, none⟩ = some (.slice none 0 0) := hDid7.cell 0
      have y1 : w7.cell? ⟨w.heap.size, 1, none⟩ = some (.slice none 0 0) := hDid7.cell 1
      have z0 := hDid7.frozen 0
      have z1 := hDid7.frozen 1
      have HPK := hid hpk
      have HCH := hid hch
      clear hpk hch hcs
      go_wp2
      refine bodyPost_gen (fun W' => W'.cell? ⟨w.heap.size, 0, none⟩ = some (.slice ap Xp.length cp) ∧ W'.cell? ⟨w.heap.size, 1, none⟩ = some (.slice ac cs'.length cc) ∧ Wrote [w.heap.size] w7 W') ⟨((hDid7.set 0 _).set 1 _).cell 0, ((hDid7.set 0 _).set 1 _).cell 1, (Wrote.setCell (M := [w.heap.size]) w7 ⟨w.heap.size, 0, none⟩ (by simp) _).trans (Wrote.setCell _ ⟨w.heap.size, 1, none⟩ (by simp) _)⟩ ?_
      rintro W' ⟨e0, e1, hW⟩
      refine bodyPost_ret (v := .tuple #[.agg #[.slice ap Xp.length cp, .slice ac cs'.length cc], .int .i64 0]) (by simp [results, Tryz.results48, go_sem, e0, e1]) rfl ?_
      have hS := (hS0.trans hst67).fresh hW (by simp)
      have hnf7 := hst7.not hnd4 hDid4.out.lt
      have hg1 : 1 ∉ [w.heap.size] := by have := h.tz.lt; simp only [List.mem_singleton]; omega
      rw [hfin.out]
      refine ⟨_, _, _, rfl, ((hob 0 (Nat.zero_le _)).out hW (by simpa using hnf7) hg1).rebase (Nat.le_refl _), ⟨rfl, rfl⟩, rfl, hS, not_own HPK.out hW (fun x hx hb => ?_), not_own HCH.out hW (fun x hx hb => ?_)⟩
      · simp at hx; subst hx
        exact block_not_row hDid7 (by decide) HPK.out (mem_blk.1 hb).symm
      · simp at hx; subst hx
        exact block_not_row hDid7 (by decide) HCH.out (mem_blk.1 hb).symm
end Go.Proofs.YtoinabapaeebfaaGreatDoor
