/- Parts of the proof of SessionRows: contracts of functions that it reaches, and plain lemmas. No condition of their own. -/
import Derived.Test.YtoinabapaeebfaaGreatDoorPk11
import Derived.Test.YtoinabapaeebfaaGreatDoorPk06
set_option linter.unusedSimpArgs false
set_option linter.unusedVariables false
set_option maxRecDepth 100000
set_option maxHeartbeats 8000000
namespace Go.Proofs.YtoinabapaeebfaaGreatDoor
open Go.RowKit Go.Shelf
section
structure Nigh (x y : SS) : Prop where
 client : y.s.client = x.s.client
 seq : y.s.seq = x.s.seq
 ps : y.ps.length <= x.ps.length + 1
 cs : y.cs.length <= x.cs.length + 1
theorem Nigh.refl (x : SS) : Nigh x x := ⟨rfl, rfl, by omega, by omega⟩
theorem gone_nigh (x : SS) (n st q : Int) : Nigh x (x.goneAt n st q) := by
 unfold SS.goneAt
 split
 ·exact Nigh.refl x
 ·unfold SS.goneIf
  split
  ·exact Nigh.refl x
  ·split
   ·unfold SS.gone
    split
    ·exact Nigh.refl x
    ·exact ⟨rfl, rfl, by simp, by simp⟩
   ·exact Nigh.refl x
theorem pubrec_nigh (x : SS) (n z : Int) : Nigh x (x.pubrec n z) := by
 unfold SS.pubrec
 split
 ·exact ⟨rfl, rfl, by simp [SS.rel], by simp [SS.rel]⟩
 ·split
  ·exact Nigh.refl x
  ·split
   ·unfold SS.recv
    split
    ·exact ⟨rfl, rfl, by simp [SS.rel], by simp [SS.rel]⟩
    ·split
     ·exact ⟨rfl, rfl, by simp [SS.rel], by simp [SS.rel]⟩
     ·exact ⟨rfl, rfl, by simp [SS.rel], by simp [SS.rel]⟩
   ·exact Nigh.refl x
def SS.ack (x : SS) (z : Int) : SS := x.goneAt (idxOf (RowV.has z) x.s.l) 2 1
def SS.rec' (x : SS) (z : Int) : SS := x.pubrec (idxOf (RowV.has z) x.s.l) z
def SS.comp (x : SS) (z : Int) : SS := x.goneAt (idxOf (RowV.has z) x.s.l) 3 2
theorem has_stage {l : List RowV} {z : Int} {r : RowV} (h : l[(idxOf (RowV.has z) l).toNat]? = some r) (h0 : 0 <= idxOf (RowV.has z) l) : r.stage ≠ 1 := by
 induction l with
 | nil => simp at h
 | cons x l ih =>
  unfold idxOf at h h0
  by_cases hx : RowV.has z x = true
  ·rw [if_pos hx] at h
   simp at h
   subst h;simp [RowV.has] at hx
   exact hx.1
  ·rw [if_neg hx] at h h0
   dsimp only at h h0
   by_cases hr : idxOf (RowV.has z) l < 0
   ·rw [if_pos hr] at h0; omega
   ·rw [if_neg hr] at h
    have e : (idxOf (RowV.has z) l + 1).toNat = (idxOf (RowV.has z) l).toNat + 1 := by omega
    rw [e] at h
    simp at h
    exact ih h (by omega)
theorem func_not_nil (f : Nat) (W : World) : (binOp .eql 164 (.func (.func f) #[] #[]) .nilFunc).run Tryz.prog W = .ok (.bool false) W := by
 have h : (Op.equal 164 (.func (.func f) #[] #[]) .nilFunc).run Tryz.prog W = .ok false W := by
  unfold Op.equal
  rw [show Op.maxDepth = (Op.maxDepth - 1) + 1 from rfl]
  unfold Op.equalIn
  simp [run_underlying Tryz.underlying164]
 simp [binOp, h]
theorem out_Hear4 {w : World} {B : Nat} {L : Lay} {s : OS} (h : OB w B L s [] []) (hn : L.vp = .slice none 0 0 /\ L.vc = .slice none 0 0) (z : Int) (hz : 1 <= z /\ z <= 65535) :
  Calls Tryz.prog 43 #[.pointer (some ⟨L.p, 0, none⟩), .int .i64 4, .int .i64 z] w fun e w' => ∃ vp vc L', e = .returned (.tuple #[.agg #[vp, vc], .int .i64 0]) /\
   DidAt w w' L L' ((s.start.ack z).all.fin s.seq s.id).s vp vc ((s.start.ack z).all.fin s.seq s.id).ps ((s.start.ack z).all.fin s.seq s.id).cs := by
 obtain ⟨Y, hY⟩ : ∃ Y, s.start.ack z = Y := ⟨_, rfl⟩
 have hYn : Nigh s.start Y := by rw [<- hY]; exact (gone_nigh _ _ _ _)
 obtain ⟨X, hX⟩ : ∃ X, Y.all = X := ⟨_, rfl⟩
 have hXs := all_same Y
 have hil := idxOf_lt (RowV.has z) s.l
 obtain ⟨n, hnn⟩ : ∃ n, idxOf (RowV.has z) s.l = n := ⟨_, rfl⟩
 have hXl : Y.s.l.length <= 1000 -> X.ps.length <= Y.ps.length + 1000 /\ X.cs.length <= Y.cs.length + 1000 := fun hh => by rw [<- hX]; exact all_len Y hh
 rw [hX] at hXs
 rw [hY, hX]
 have HST : 0 <= n -> ∀ r, s.l[n.toNat]? = some r -> r.stage ≠ 1 := fun h0 r hr => by rw [<- hnn] at hr h0; exact has_stage hr h0
 have TOLD := hid fun (w1 : World) (hb : Below w.heap.size w w1) => by
  have h1 := OB.rebase (L := { L with vp := .slice none 0 0, vc := .slice none 0 0 }) (s := s) (by
   have h0 := h
   obtain ⟨p, ib, sb, vl, vp, vc, rb, W⟩ := L
   dsimp only at hn
   obtain ⟨rfl, rfl⟩ := hn
   exact h0.below hb) (B' := w.heap.size) hb.size
  exact (out_puback h1 n z (by have:=hil.1;rw[hnn]at this;exact this) (by simp))
 have hYY : s.start.ack z = (SS.goneAt ⟨s,[],[]⟩ n 2 1) := by unfold SS.ack; show _ = (SS.goneAt ⟨s,[],[]⟩ n 2 1); rw [<- hnn]; rfl
 have hYe : (SS.goneAt ⟨s,[],[]⟩ n 2 1) = Y := by rw [<- hYY]; exact hY
 have FIND := hid fun (w1 : World) (hb : Below w.heap.size w w1) => out_find (h.below hb) z
 rw [hnn] at FIND hil
 rw [hYe] at TOLD
 clear hY hYY hYe;obtain ⟨Xs, Xp, Xc⟩ := X
 obtain ⟨xcl, xwin, xroom, xseq, xid, xl⟩ := Xs
 have hYcl := hYn.client
 have hYsq := hYn.seq
 have hYps := hYn.ps
 have hYcs := hYn.cs
 obtain ⟨client, window, room, seq, id, l⟩ := s
 obtain ⟨p, ib, sb, vl, vp, vc, rb, W⟩ := L
 dsimp only [OS.start] at hn hXl hXs hYcl hYsq hYps hYcs TOLD FIND hil ⊢
 obtain ⟨rfl, rfl⟩ := hn
 have ex1 : xcl = client := hXs.1.trans hYcl
 have ex2 : xseq = seq := hXs.2.trans hYsq
 subst ex1 ex2;simp only [List.length_nil, Nat.zero_add] at hYps hYcs
 clear hnn hYn hXs hYcl hYsq;have CN := hid fun (w1 : World) (hb : Below w.heap.size w w1) => out_none (h.below hb)
 have CS := hid fun (w1 : World) (hb : Below w.heap.size w w1) => out_Session (h.below hb)
 dsimp only [OS.session, RowV.vals] at CS
 have hp : p < w.heap.size := h.box.lt
 have d1 : decide (z < 1) = false := decide_eq_false (by omega)
 have d2 : decide (65535 < z) = false := decide_eq_false (by omega)
 have hX := hid hX;have hmm := @run_makeMap Tryz.prog
 have hnil := func_not_nil 89
 have hb0 : ((w.alloc (.cells #[.slice none 0 0, .slice none 0 0] 53)).alloc (.map #[] 0)).heap[w.heap.size + 1]? = some (.map #[] 0) := by simpa using World.alloc_heap_new (w.alloc (.cells #[.slice none 0 0, .slice none 0 0] 53)) (.map #[] 0)
 have B0 : Below w.heap.size w ((w.alloc (.cells #[.slice none 0 0, .slice none 0 0] 53)).alloc (.map #[] 0)) := ((Below.refl _ w).alloc (Nat.le_refl _) _).alloc (by simp) _
 have D0 := (Blk.new w #[.slice none 0 0, .slice none 0 0] 53).alloc (.map #[] 0)
 have Z0 : ((w.alloc (.cells #[.slice none 0 0, .slice none 0 0] 53)).alloc (.map #[] 0)).heap.size ≥ w.heap.size + 2 := by simp
 go_enter Tryz.func43, Tryz.ntmps43
 go_wp2_with (
  refine wpList_insert_new _ rfl _ _ _ 166 rfl 41 164 .i64 Tryz.underlying166 Tryz.underlying41 _ _ _ rfl (by with_reducible assumption) _ _ rfl rfl (by simp [putE]) ?_
  intro w1 hb1 hg1
  replace B0 := B0.grown hg1 B0.size (fun k hk => by cases hk; omega)
  replace D0 := D0.keep (hg1.block _ (by omega) (by simp))
  replace Z0 := Nat.le_trans Z0 hg1.size
  try (have HL := run_lookup_at (P := Tryz.prog) 166 41 164 .i64 Tryz.underlying166 Tryz.underlying41 _ _ _ _ hb1 4 _ 0 rfl false)
  clear hg1)
 refine (CN.out _ B0).mono ?_
 rintro e w2 ⟨rfl, rfl⟩
 go_wp2_with fail
 refine (CS.out _ B0).mono ?_
 rintro e w3 ⟨rfl, hb3⟩
 have hfo : ∀ x ∈ (Lay.foot ⟨p, ib, sb, vl, .slice none 0 0, .slice none 0 0, rb, W⟩), x < w.heap.size := h.lt
 have hbw : Below w.heap.size w w3 := B0.trans (hb3.mono B0.size)
 have hz3 : w.heap.size + 1 <= w3.heap.size := by have := hb3.size; omega
 have hbw2 := hid (hbw.alloc hbw.size (.cells #[.int .i64 1, .string ⟨xcl.toArray⟩, .int .i64 xseq, .int .i64 id, .string ⟨#[]⟩, .string ⟨#[]⟩, .int .i64 0, .bool false, .int .i64 0] 33))
 have bDid := hid ((D0.below hb3).alloc (.cells #[.int .i64 1, .string ⟨xcl.toArray⟩, .int .i64 xseq, .int .i64 id, .string ⟨#[]⟩, .string ⟨#[]⟩, .int .i64 0, .bool false, .int .i64 0] 33))
 have bWas := hid (Blk.new w3 #[.int .i64 1, .string ⟨xcl.toArray⟩, .int .i64 xseq, .int .i64 id, .string ⟨#[]⟩, .string ⟨#[]⟩, .int .i64 0, .bool false, .int .i64 0] 33)
 clear hb0 hb1 hmm D0 B0;go_wp2_with fail
 refine (FIND.out _ hbw2.out).mono ?_
 rintro e w4 ⟨rfl, hb4⟩
 have hbw4 := hid (hbw2.out.trans (hb4.mono hbw2.out.size))
 have bDid4 := hid (bDid.out.below hb4)
 have bWas4 := hid (bWas.out.below hb4)
 clear bDid bWas;have hz4 : w3.heap.size + 1 <= w4.heap.size := by have := hb4.size; simp at this; omega
 go_wp2_with fail
 refine (TOLD.out _ hbw4.out).mono ?_
 rintro e w5 ⟨rfl, L5, hp5, hO5, hS5⟩
 have bDid5 := hid (bDid4.out.wrote hS5.wrote (fun hx => by have := hfo _ hx; omega))
 have bWas5 := hid (bWas4.out.wrote hS5.wrote (fun hx => by have := hfo _ hx; omega))
 have hnW := hS5.not (x := w3.heap.size) (fun hx => by have := hfo _ hx; omega) (by omega)
 have hnD := hS5.not (x := w.heap.size) (fun hx => by have := hfo _ hx; omega) (by omega)
 have hYl : Y.s.l.length <= 1000 := by have := hO5.ok.room; omega
 have hXl := hXl hYl
 have hS0 := (Stp.below (F := Lay.foot ⟨p, ib, sb, vl, .slice none 0 0, .slice none 0 0, rb, W⟩) hbw4.out).trans hS5
 have SEND := hid fun (W' : World) (hW : W' = w5) => by
  subst hW;have h1 := out_send (x0 := Y) hO5 (by omega) (by omega)
  rw [hX.out] at h1
  exact h1
 obtain ⟨p5, ib5, sb5, vl5, vp5, vc5, rb5, W5⟩ := L5
 dsimp only at hp5
 replace hp5 := hp5.symm
 subst hp5;dsimp only at SEND
 go_wp2_with fail
 refine (SEND.out _ rfl).mono ?_
 rintro e w4 ⟨rfl, v4, u4, V4, hO4, hst4⟩
 have hfo : ∀ x ∈ (Lay.foot ⟨p, ib, sb, vl, .slice none 0 0, .slice none 0 0, rb, W⟩), x < w.heap.size := h.lt
 have hnw : w3.heap.size ∉ (Lay.foot ⟨p,ib5,sb5,vl5,vp5,vc5,rb5,W5⟩) := hnW
 have hnd : w.heap.size ∉ (Lay.foot ⟨p,ib5,sb5,vl5,vp5,vc5,rb5,W5⟩) := hnD
 have hWas4 := hid (bWas5.out.wrote hst4.wrote hnw)
 have hDid4 := hid (bDid5.out.wrote hst4.wrote hnd)
 have hO4 := hid hO4;have s0 : w4.cell? ⟨w3.heap.size, 0, none⟩ = some (.int .i64 1) := hWas4.out.cell 0
 have s1 : w4.cell? ⟨w3.heap.size, 1, none⟩ = some (.string ⟨xcl.toArray⟩) := hWas4.out.cell 1
 have s2 : w4.cell? ⟨w3.heap.size, 2, none⟩ = some (.int .i64 xseq) := hWas4.out.cell 2
 have s3 : w4.cell? ⟨w3.heap.size, 3, none⟩ = some (.int .i64 id) := hWas4.out.cell 3
 have s4 : w4.cell? ⟨w3.heap.size, 4, none⟩ = some (.string ⟨#[]⟩) := hWas4.out.cell 4
 have s5 : w4.cell? ⟨w3.heap.size, 5, none⟩ = some (.string ⟨#[]⟩) := hWas4.out.cell 5
 have s6 : w4.cell? ⟨w3.heap.size, 6, none⟩ = some (.int .i64 0) := hWas4.out.cell 6
 have s7 : w4.cell? ⟨w3.heap.size, 7, none⟩ = some (.bool false) := hWas4.out.cell 7
 have s8 : w4.cell? ⟨w3.heap.size, 8, none⟩ = some (.int .i64 0) := hWas4.out.cell 8
 go_wp2_with fail
 refine (out_done hO4.out xseq id (by (try dsimp only); omega)).mono ?_
 rintro e w7 ⟨vp, vc, cs', rfl, hcs, hob, hpk, hch, hst7⟩
 have hfin : (SS.fin ⟨⟨xcl, xwin, xroom, xseq, xid, xl⟩, Xp, Xc⟩ xseq id) = ⟨⟨xcl, xwin, xroom, xseq, xid, xl⟩, Xp, cs'⟩ := by rw [hcs]; rfl
 replace hfin := hid hfin;obtain ⟨ap, cp, rfl⟩ := own_slice hpk
 obtain ⟨ac, cc, rfl⟩ := own_slice hch
 have hst67 := hst4.trans hst7
 have hnd4 := hst4.not hnd (bDid5.out.lt)
 have hDid7 := hDid4.out.wrote hst7.wrote hnd4
 have y0 : w7.cell? ⟨w.heap.size, 0, none⟩ = some (.slice none 0 0) := hDid7.cell 0
 have y1 : w7.cell? ⟨w.heap.size, 1, none⟩ = some (.slice none 0 0) := hDid7.cell 1
 have z0 := hDid7.frozen 0
 have z1 := hDid7.frozen 1
 have HPK := hid hpk;have HCH := hid hch;clear hpk hch hcs;go_wp2
 refine bodyPost_gen (fun W' => W'.cell? ⟨w.heap.size, 0, none⟩ = some (.slice ap Xp.length cp) /\ W'.cell? ⟨w.heap.size, 1, none⟩ = some (.slice ac cs'.length cc) /\ Wrote [w.heap.size] w7 W') ⟨((hDid7.set 0 _).set 1 _).cell 0, ((hDid7.set 0 _).set 1 _).cell 1, (Wrote.setCell (M := [w.heap.size]) w7 ⟨w.heap.size, 0, none⟩ (by simp) _).trans (Wrote.setCell _ ⟨w.heap.size, 1, none⟩ (by simp) _)⟩ ?_
 rintro W' ⟨e0, e1, hW⟩
 refine bodyPost_ret (v := .tuple #[.agg #[.slice ap Xp.length cp, .slice ac cs'.length cc], .int .i64 0]) (by simp [results, Tryz.results43, go_sem, e0, e1]) rfl ?_
 have hS := (hS0.trans hst67).fresh hW (by simp)
 have hnf7 := hst7.not hnd4 hDid4.out.lt
 have hg1 : 1 ∉ [w.heap.size] := by have := h.tz.lt; simp only [List.mem_singleton]; omega
 rw [hfin.out]
 refine ⟨_, _, _, rfl, ((hob 0 (Nat.zero_le _)).out hW (by simpa using hnf7) hg1).rebase (Nat.le_refl _), ⟨rfl, rfl⟩, rfl, hS, not_own HPK.out hW (fun x hx hb => ?_), not_own HCH.out hW (fun x hx hb => ?_)⟩
 ·simp at hx; subst hx
  exact block_not_row hDid7 (by decide) HPK.out (mem_blk.1 hb).symm
 ·simp at hx; subst hx
  exact block_not_row hDid7 (by decide) HCH.out (mem_blk.1 hb).symm
theorem out_Hear5 {w : World} {B : Nat} {L : Lay} {s : OS} (h : OB w B L s [] []) (hn : L.vp = .slice none 0 0 /\ L.vc = .slice none 0 0) (z : Int) (hz : 1 <= z /\ z <= 65535) :
  Calls Tryz.prog 43 #[.pointer (some ⟨L.p, 0, none⟩), .int .i64 5, .int .i64 z] w fun e w' => ∃ vp vc L', e = .returned (.tuple #[.agg #[vp, vc], .int .i64 0]) /\
   DidAt w w' L L' ((s.start.rec' z).all.fin s.seq s.id).s vp vc ((s.start.rec' z).all.fin s.seq s.id).ps ((s.start.rec' z).all.fin s.seq s.id).cs := by
 obtain ⟨Y, hY⟩ : ∃ Y, s.start.rec' z = Y := ⟨_, rfl⟩
 have hYn : Nigh s.start Y := by rw [<- hY]; exact (pubrec_nigh _ _ _)
 obtain ⟨X, hX⟩ : ∃ X, Y.all = X := ⟨_, rfl⟩
 have hXs := all_same Y
 have hil := idxOf_lt (RowV.has z) s.l
 obtain ⟨n, hnn⟩ : ∃ n, idxOf (RowV.has z) s.l = n := ⟨_, rfl⟩
 have hXl : Y.s.l.length <= 1000 -> X.ps.length <= Y.ps.length + 1000 /\ X.cs.length <= Y.cs.length + 1000 := fun hh => by rw [<- hX]; exact all_len Y hh
 rw [hX] at hXs
 rw [hY, hX]
 have HST : 0 <= n -> ∀ r, s.l[n.toNat]? = some r -> r.stage ≠ 1 := fun h0 r hr => by rw [<- hnn] at hr h0; exact has_stage hr h0
 have TOLD := hid fun (w1 : World) (hb : Below w.heap.size w w1) => by
  have h1 := OB.rebase (L := { L with vp := .slice none 0 0, vc := .slice none 0 0 }) (s := s) (by
   have h0 := h
   obtain ⟨p, ib, sb, vl, vp, vc, rb, W⟩ := L
   dsimp only at hn
   obtain ⟨rfl, rfl⟩ := hn
   exact h0.below hb) (B' := w.heap.size) hb.size
  exact (out_pubrec h1 n z (by have:=hil.1;rw[hnn]at this;exact this) (by simp) (by simp) HST)
 have hYY : s.start.rec' z = (SS.pubrec ⟨s,[],[]⟩ n z) := by unfold SS.rec'; show _ = (SS.pubrec ⟨s,[],[]⟩ n z); rw [<- hnn]; rfl
 have hYe : (SS.pubrec ⟨s,[],[]⟩ n z) = Y := by rw [<- hYY]; exact hY
 have FIND := hid fun (w1 : World) (hb : Below w.heap.size w w1) => out_find (h.below hb) z
 rw [hnn] at FIND hil
 rw [hYe] at TOLD
 clear hY hYY hYe;obtain ⟨Xs, Xp, Xc⟩ := X
 obtain ⟨xcl, xwin, xroom, xseq, xid, xl⟩ := Xs
 have hYcl := hYn.client
 have hYsq := hYn.seq
 have hYps := hYn.ps
 have hYcs := hYn.cs
 obtain ⟨client, window, room, seq, id, l⟩ := s
 obtain ⟨p, ib, sb, vl, vp, vc, rb, W⟩ := L
 dsimp only [OS.start] at hn hXl hXs hYcl hYsq hYps hYcs TOLD FIND hil ⊢
 obtain ⟨rfl, rfl⟩ := hn
 have ex1 : xcl = client := hXs.1.trans hYcl
 have ex2 : xseq = seq := hXs.2.trans hYsq
 subst ex1 ex2;simp only [List.length_nil, Nat.zero_add] at hYps hYcs
 clear hnn hYn hXs hYcl hYsq;have CN := hid fun (w1 : World) (hb : Below w.heap.size w w1) => out_none (h.below hb)
 have CS := hid fun (w1 : World) (hb : Below w.heap.size w w1) => out_Session (h.below hb)
 dsimp only [OS.session, RowV.vals] at CS
 have hp : p < w.heap.size := h.box.lt
 have d1 : decide (z < 1) = false := decide_eq_false (by omega)
 have d2 : decide (65535 < z) = false := decide_eq_false (by omega)
 have hX := hid hX;have hmm := @run_makeMap Tryz.prog
 have hnil := func_not_nil 90
 have hb0 : ((w.alloc (.cells #[.slice none 0 0, .slice none 0 0] 53)).alloc (.map #[] 0)).heap[w.heap.size + 1]? = some (.map #[] 0) := by simpa using World.alloc_heap_new (w.alloc (.cells #[.slice none 0 0, .slice none 0 0] 53)) (.map #[] 0)
 have B0 : Below w.heap.size w ((w.alloc (.cells #[.slice none 0 0, .slice none 0 0] 53)).alloc (.map #[] 0)) := ((Below.refl _ w).alloc (Nat.le_refl _) _).alloc (by simp) _
 have D0 := (Blk.new w #[.slice none 0 0, .slice none 0 0] 53).alloc (.map #[] 0)
 have Z0 : ((w.alloc (.cells #[.slice none 0 0, .slice none 0 0] 53)).alloc (.map #[] 0)).heap.size ≥ w.heap.size + 2 := by simp
 go_enter Tryz.func43, Tryz.ntmps43
 go_wp2_with (
  refine wpList_insert_new _ rfl _ _ _ 166 rfl 41 164 .i64 Tryz.underlying166 Tryz.underlying41 _ _ _ rfl (by with_reducible assumption) _ _ rfl rfl (by simp [putE]) ?_
  intro w1 hb1 hg1
  replace B0 := B0.grown hg1 B0.size (fun k hk => by cases hk; omega)
  replace D0 := D0.keep (hg1.block _ (by omega) (by simp))
  replace Z0 := Nat.le_trans Z0 hg1.size
  try (have HL := run_lookup_at (P := Tryz.prog) 166 41 164 .i64 Tryz.underlying166 Tryz.underlying41 _ _ _ _ hb1 5 _ 1 rfl false)
  clear hg1)
 refine (CN.out _ B0).mono ?_
 rintro e w2 ⟨rfl, rfl⟩
 go_wp2_with fail
 refine (CS.out _ B0).mono ?_
 rintro e w3 ⟨rfl, hb3⟩
 have hfo : ∀ x ∈ (Lay.foot ⟨p, ib, sb, vl, .slice none 0 0, .slice none 0 0, rb, W⟩), x < w.heap.size := h.lt
 have hbw : Below w.heap.size w w3 := B0.trans (hb3.mono B0.size)
 have hz3 : w.heap.size + 1 <= w3.heap.size := by have := hb3.size; omega
 have hbw2 := hid (hbw.alloc hbw.size (.cells #[.int .i64 1, .string ⟨xcl.toArray⟩, .int .i64 xseq, .int .i64 id, .string ⟨#[]⟩, .string ⟨#[]⟩, .int .i64 0, .bool false, .int .i64 0] 33))
 have bDid := hid ((D0.below hb3).alloc (.cells #[.int .i64 1, .string ⟨xcl.toArray⟩, .int .i64 xseq, .int .i64 id, .string ⟨#[]⟩, .string ⟨#[]⟩, .int .i64 0, .bool false, .int .i64 0] 33))
 have bWas := hid (Blk.new w3 #[.int .i64 1, .string ⟨xcl.toArray⟩, .int .i64 xseq, .int .i64 id, .string ⟨#[]⟩, .string ⟨#[]⟩, .int .i64 0, .bool false, .int .i64 0] 33)
 clear hb0 hb1 hmm D0 B0;go_wp2_with fail
 refine (FIND.out _ hbw2.out).mono ?_
 rintro e w4 ⟨rfl, hb4⟩
 have hbw4 := hid (hbw2.out.trans (hb4.mono hbw2.out.size))
 have bDid4 := hid (bDid.out.below hb4)
 have bWas4 := hid (bWas.out.below hb4)
 clear bDid bWas;have hz4 : w3.heap.size + 1 <= w4.heap.size := by have := hb4.size; simp at this; omega
 go_wp2_with fail
 refine (TOLD.out _ hbw4.out).mono ?_
 rintro e w5 ⟨rfl, L5, hp5, hO5, hS5⟩
 have bDid5 := hid (bDid4.out.wrote hS5.wrote (fun hx => by have := hfo _ hx; omega))
 have bWas5 := hid (bWas4.out.wrote hS5.wrote (fun hx => by have := hfo _ hx; omega))
 have hnW := hS5.not (x := w3.heap.size) (fun hx => by have := hfo _ hx; omega) (by omega)
 have hnD := hS5.not (x := w.heap.size) (fun hx => by have := hfo _ hx; omega) (by omega)
 have hYl : Y.s.l.length <= 1000 := by have := hO5.ok.room; omega
 have hXl := hXl hYl
 have hS0 := (Stp.below (F := Lay.foot ⟨p, ib, sb, vl, .slice none 0 0, .slice none 0 0, rb, W⟩) hbw4.out).trans hS5
 have SEND := hid fun (W' : World) (hW : W' = w5) => by
  subst hW;have h1 := out_send (x0 := Y) hO5 (by omega) (by omega)
  rw [hX.out] at h1
  exact h1
 obtain ⟨p5, ib5, sb5, vl5, vp5, vc5, rb5, W5⟩ := L5
 dsimp only at hp5
 replace hp5 := hp5.symm
 subst hp5;dsimp only at SEND
 go_wp2_with fail
 refine (SEND.out _ rfl).mono ?_
 rintro e w4 ⟨rfl, v4, u4, V4, hO4, hst4⟩
 have hfo : ∀ x ∈ (Lay.foot ⟨p, ib, sb, vl, .slice none 0 0, .slice none 0 0, rb, W⟩), x < w.heap.size := h.lt
 have hnw : w3.heap.size ∉ (Lay.foot ⟨p,ib5,sb5,vl5,vp5,vc5,rb5,W5⟩) := hnW
 have hnd : w.heap.size ∉ (Lay.foot ⟨p,ib5,sb5,vl5,vp5,vc5,rb5,W5⟩) := hnD
 have hWas4 := hid (bWas5.out.wrote hst4.wrote hnw)
 have hDid4 := hid (bDid5.out.wrote hst4.wrote hnd)
 have hO4 := hid hO4;have s0 : w4.cell? ⟨w3.heap.size, 0, none⟩ = some (.int .i64 1) := hWas4.out.cell 0
 have s1 : w4.cell? ⟨w3.heap.size, 1, none⟩ = some (.string ⟨xcl.toArray⟩) := hWas4.out.cell 1
 have s2 : w4.cell? ⟨w3.heap.size, 2, none⟩ = some (.int .i64 xseq) := hWas4.out.cell 2
 have s3 : w4.cell? ⟨w3.heap.size, 3, none⟩ = some (.int .i64 id) := hWas4.out.cell 3
 have s4 : w4.cell? ⟨w3.heap.size, 4, none⟩ = some (.string ⟨#[]⟩) := hWas4.out.cell 4
 have s5 : w4.cell? ⟨w3.heap.size, 5, none⟩ = some (.string ⟨#[]⟩) := hWas4.out.cell 5
 have s6 : w4.cell? ⟨w3.heap.size, 6, none⟩ = some (.int .i64 0) := hWas4.out.cell 6
 have s7 : w4.cell? ⟨w3.heap.size, 7, none⟩ = some (.bool false) := hWas4.out.cell 7
 have s8 : w4.cell? ⟨w3.heap.size, 8, none⟩ = some (.int .i64 0) := hWas4.out.cell 8
 go_wp2_with fail
 refine (out_done hO4.out xseq id (by (try dsimp only); omega)).mono ?_
 rintro e w7 ⟨vp, vc, cs', rfl, hcs, hob, hpk, hch, hst7⟩
 have hfin : (SS.fin ⟨⟨xcl, xwin, xroom, xseq, xid, xl⟩, Xp, Xc⟩ xseq id) = ⟨⟨xcl, xwin, xroom, xseq, xid, xl⟩, Xp, cs'⟩ := by rw [hcs]; rfl
 replace hfin := hid hfin;obtain ⟨ap, cp, rfl⟩ := own_slice hpk
 obtain ⟨ac, cc, rfl⟩ := own_slice hch
 have hst67 := hst4.trans hst7
 have hnd4 := hst4.not hnd (bDid5.out.lt)
 have hDid7 := hDid4.out.wrote hst7.wrote hnd4
 have y0 : w7.cell? ⟨w.heap.size, 0, none⟩ = some (.slice none 0 0) := hDid7.cell 0
 have y1 : w7.cell? ⟨w.heap.size, 1, none⟩ = some (.slice none 0 0) := hDid7.cell 1
 have z0 := hDid7.frozen 0
 have z1 := hDid7.frozen 1
 have HPK := hid hpk;have HCH := hid hch;clear hpk hch hcs;go_wp2
 refine bodyPost_gen (fun W' => W'.cell? ⟨w.heap.size, 0, none⟩ = some (.slice ap Xp.length cp) /\ W'.cell? ⟨w.heap.size, 1, none⟩ = some (.slice ac cs'.length cc) /\ Wrote [w.heap.size] w7 W') ⟨((hDid7.set 0 _).set 1 _).cell 0, ((hDid7.set 0 _).set 1 _).cell 1, (Wrote.setCell (M := [w.heap.size]) w7 ⟨w.heap.size, 0, none⟩ (by simp) _).trans (Wrote.setCell _ ⟨w.heap.size, 1, none⟩ (by simp) _)⟩ ?_
 rintro W' ⟨e0, e1, hW⟩
 refine bodyPost_ret (v := .tuple #[.agg #[.slice ap Xp.length cp, .slice ac cs'.length cc], .int .i64 0]) (by simp [results, Tryz.results43, go_sem, e0, e1]) rfl ?_
 have hS := (hS0.trans hst67).fresh hW (by simp)
 have hnf7 := hst7.not hnd4 hDid4.out.lt
 have hg1 : 1 ∉ [w.heap.size] := by have := h.tz.lt; simp only [List.mem_singleton]; omega
 rw [hfin.out]
 refine ⟨_, _, _, rfl, ((hob 0 (Nat.zero_le _)).out hW (by simpa using hnf7) hg1).rebase (Nat.le_refl _), ⟨rfl, rfl⟩, rfl, hS, not_own HPK.out hW (fun x hx hb => ?_), not_own HCH.out hW (fun x hx hb => ?_)⟩
 ·simp at hx; subst hx
  exact block_not_row hDid7 (by decide) HPK.out (mem_blk.1 hb).symm
 ·simp at hx; subst hx
  exact block_not_row hDid7 (by decide) HCH.out (mem_blk.1 hb).symm
theorem out_Hear7 {w : World} {B : Nat} {L : Lay} {s : OS} (h : OB w B L s [] []) (hn : L.vp = .slice none 0 0 /\ L.vc = .slice none 0 0) (z : Int) (hz : 1 <= z /\ z <= 65535) :
  Calls Tryz.prog 43 #[.pointer (some ⟨L.p, 0, none⟩), .int .i64 7, .int .i64 z] w fun e w' => ∃ vp vc L', e = .returned (.tuple #[.agg #[vp, vc], .int .i64 0]) /\
   DidAt w w' L L' ((s.start.comp z).all.fin s.seq s.id).s vp vc ((s.start.comp z).all.fin s.seq s.id).ps ((s.start.comp z).all.fin s.seq s.id).cs := by
 obtain ⟨Y, hY⟩ : ∃ Y, s.start.comp z = Y := ⟨_, rfl⟩
 have hYn : Nigh s.start Y := by rw [<- hY]; exact (gone_nigh _ _ _ _)
 obtain ⟨X, hX⟩ : ∃ X, Y.all = X := ⟨_, rfl⟩
 have hXs := all_same Y
 have hil := idxOf_lt (RowV.has z) s.l
 obtain ⟨n, hnn⟩ : ∃ n, idxOf (RowV.has z) s.l = n := ⟨_, rfl⟩
 have hXl : Y.s.l.length <= 1000 -> X.ps.length <= Y.ps.length + 1000 /\ X.cs.length <= Y.cs.length + 1000 := fun hh => by rw [<- hX]; exact all_len Y hh
 rw [hX] at hXs
 rw [hY, hX]
 have HST : 0 <= n -> ∀ r, s.l[n.toNat]? = some r -> r.stage ≠ 1 := fun h0 r hr => by rw [<- hnn] at hr h0; exact has_stage hr h0
 have TOLD := hid fun (w1 : World) (hb : Below w.heap.size w w1) => by
  have h1 := OB.rebase (L := { L with vp := .slice none 0 0, vc := .slice none 0 0 }) (s := s) (by
   have h0 := h
   obtain ⟨p, ib, sb, vl, vp, vc, rb, W⟩ := L
   dsimp only at hn
   obtain ⟨rfl, rfl⟩ := hn
   exact h0.below hb) (B' := w.heap.size) hb.size
  exact (out_pubcomp h1 n z (by have:=hil.1;rw[hnn]at this;exact this) (by simp))
 have hYY : s.start.comp z = (SS.goneAt ⟨s,[],[]⟩ n 3 2) := by unfold SS.comp; show _ = (SS.goneAt ⟨s,[],[]⟩ n 3 2); rw [<- hnn]; rfl
 have hYe : (SS.goneAt ⟨s,[],[]⟩ n 3 2) = Y := by rw [<- hYY]; exact hY
 have FIND := hid fun (w1 : World) (hb : Below w.heap.size w w1) => out_find (h.below hb) z
 rw [hnn] at FIND hil
 rw [hYe] at TOLD
 clear hY hYY hYe;obtain ⟨Xs, Xp, Xc⟩ := X
 obtain ⟨xcl, xwin, xroom, xseq, xid, xl⟩ := Xs
 have hYcl := hYn.client
 have hYsq := hYn.seq
 have hYps := hYn.ps
 have hYcs := hYn.cs
 obtain ⟨client, window, room, seq, id, l⟩ := s
 obtain ⟨p, ib, sb, vl, vp, vc, rb, W⟩ := L
 dsimp only [OS.start] at hn hXl hXs hYcl hYsq hYps hYcs TOLD FIND hil ⊢
 obtain ⟨rfl, rfl⟩ := hn
 have ex1 : xcl = client := hXs.1.trans hYcl
 have ex2 : xseq = seq := hXs.2.trans hYsq
 subst ex1 ex2;simp only [List.length_nil, Nat.zero_add] at hYps hYcs
 clear hnn hYn hXs hYcl hYsq;have CN := hid fun (w1 : World) (hb : Below w.heap.size w w1) => out_none (h.below hb)
 have CS := hid fun (w1 : World) (hb : Below w.heap.size w w1) => out_Session (h.below hb)
 dsimp only [OS.session, RowV.vals] at CS
 have hp : p < w.heap.size := h.box.lt
 have d1 : decide (z < 1) = false := decide_eq_false (by omega)
 have d2 : decide (65535 < z) = false := decide_eq_false (by omega)
 have hX := hid hX;have hmm := @run_makeMap Tryz.prog
 have hnil := func_not_nil 91
 have hb0 : ((w.alloc (.cells #[.slice none 0 0, .slice none 0 0] 53)).alloc (.map #[] 0)).heap[w.heap.size + 1]? = some (.map #[] 0) := by simpa using World.alloc_heap_new (w.alloc (.cells #[.slice none 0 0, .slice none 0 0] 53)) (.map #[] 0)
 have B0 : Below w.heap.size w ((w.alloc (.cells #[.slice none 0 0, .slice none 0 0] 53)).alloc (.map #[] 0)) := ((Below.refl _ w).alloc (Nat.le_refl _) _).alloc (by simp) _
 have D0 := (Blk.new w #[.slice none 0 0, .slice none 0 0] 53).alloc (.map #[] 0)
 have Z0 : ((w.alloc (.cells #[.slice none 0 0, .slice none 0 0] 53)).alloc (.map #[] 0)).heap.size ≥ w.heap.size + 2 := by simp
 go_enter Tryz.func43, Tryz.ntmps43
 go_wp2_with (
  refine wpList_insert_new _ rfl _ _ _ 166 rfl 41 164 .i64 Tryz.underlying166 Tryz.underlying41 _ _ _ rfl (by with_reducible assumption) _ _ rfl rfl (by simp [putE]) ?_
  intro w1 hb1 hg1
  replace B0 := B0.grown hg1 B0.size (fun k hk => by cases hk; omega)
  replace D0 := D0.keep (hg1.block _ (by omega) (by simp))
  replace Z0 := Nat.le_trans Z0 hg1.size
  try (have HL := run_lookup_at (P := Tryz.prog) 166 41 164 .i64 Tryz.underlying166 Tryz.underlying41 _ _ _ _ hb1 7 _ 2 rfl false)
  clear hg1)
 refine (CN.out _ B0).mono ?_
 rintro e w2 ⟨rfl, rfl⟩
 go_wp2_with fail
 refine (CS.out _ B0).mono ?_
 rintro e w3 ⟨rfl, hb3⟩
 have hfo : ∀ x ∈ (Lay.foot ⟨p, ib, sb, vl, .slice none 0 0, .slice none 0 0, rb, W⟩), x < w.heap.size := h.lt
 have hbw : Below w.heap.size w w3 := B0.trans (hb3.mono B0.size)
 have hz3 : w.heap.size + 1 <= w3.heap.size := by have := hb3.size; omega
 have hbw2 := hid (hbw.alloc hbw.size (.cells #[.int .i64 1, .string ⟨xcl.toArray⟩, .int .i64 xseq, .int .i64 id, .string ⟨#[]⟩, .string ⟨#[]⟩, .int .i64 0, .bool false, .int .i64 0] 33))
 have bDid := hid ((D0.below hb3).alloc (.cells #[.int .i64 1, .string ⟨xcl.toArray⟩, .int .i64 xseq, .int .i64 id, .string ⟨#[]⟩, .string ⟨#[]⟩, .int .i64 0, .bool false, .int .i64 0] 33))
 have bWas := hid (Blk.new w3 #[.int .i64 1, .string ⟨xcl.toArray⟩, .int .i64 xseq, .int .i64 id, .string ⟨#[]⟩, .string ⟨#[]⟩, .int .i64 0, .bool false, .int .i64 0] 33)
 clear hb0 hb1 hmm D0 B0;go_wp2_with fail
 refine (FIND.out _ hbw2.out).mono ?_
 rintro e w4 ⟨rfl, hb4⟩
 have hbw4 := hid (hbw2.out.trans (hb4.mono hbw2.out.size))
 have bDid4 := hid (bDid.out.below hb4)
 have bWas4 := hid (bWas.out.below hb4)
 clear bDid bWas;have hz4 : w3.heap.size + 1 <= w4.heap.size := by have := hb4.size; simp at this; omega
 go_wp2_with fail
 refine (TOLD.out _ hbw4.out).mono ?_
 rintro e w5 ⟨rfl, L5, hp5, hO5, hS5⟩
 have bDid5 := hid (bDid4.out.wrote hS5.wrote (fun hx => by have := hfo _ hx; omega))
 have bWas5 := hid (bWas4.out.wrote hS5.wrote (fun hx => by have := hfo _ hx; omega))
 have hnW := hS5.not (x := w3.heap.size) (fun hx => by have := hfo _ hx; omega) (by omega)
 have hnD := hS5.not (x := w.heap.size) (fun hx => by have := hfo _ hx; omega) (by omega)
 have hYl : Y.s.l.length <= 1000 := by have := hO5.ok.room; omega
 have hXl := hXl hYl
 have hS0 := (Stp.below (F := Lay.foot ⟨p, ib, sb, vl, .slice none 0 0, .slice none 0 0, rb, W⟩) hbw4.out).trans hS5
 have SEND := hid fun (W' : World) (hW : W' = w5) => by
  subst hW;have h1 := out_send (x0 := Y) hO5 (by omega) (by omega)
  rw [hX.out] at h1
  exact h1
 obtain ⟨p5, ib5, sb5, vl5, vp5, vc5, rb5, W5⟩ := L5
 dsimp only at hp5
 replace hp5 := hp5.symm
 subst hp5;dsimp only at SEND
 go_wp2_with fail
 refine (SEND.out _ rfl).mono ?_
 rintro e w4 ⟨rfl, v4, u4, V4, hO4, hst4⟩
 have hfo : ∀ x ∈ (Lay.foot ⟨p, ib, sb, vl, .slice none 0 0, .slice none 0 0, rb, W⟩), x < w.heap.size := h.lt
 have hnw : w3.heap.size ∉ (Lay.foot ⟨p,ib5,sb5,vl5,vp5,vc5,rb5,W5⟩) := hnW
 have hnd : w.heap.size ∉ (Lay.foot ⟨p,ib5,sb5,vl5,vp5,vc5,rb5,W5⟩) := hnD
 have hWas4 := hid (bWas5.out.wrote hst4.wrote hnw)
 have hDid4 := hid (bDid5.out.wrote hst4.wrote hnd)
 have hO4 := hid hO4;have s0 : w4.cell? ⟨w3.heap.size, 0, none⟩ = some (.int .i64 1) := hWas4.out.cell 0
 have s1 : w4.cell? ⟨w3.heap.size, 1, none⟩ = some (.string ⟨xcl.toArray⟩) := hWas4.out.cell 1
 have s2 : w4.cell? ⟨w3.heap.size, 2, none⟩ = some (.int .i64 xseq) := hWas4.out.cell 2
 have s3 : w4.cell? ⟨w3.heap.size, 3, none⟩ = some (.int .i64 id) := hWas4.out.cell 3
 have s4 : w4.cell? ⟨w3.heap.size, 4, none⟩ = some (.string ⟨#[]⟩) := hWas4.out.cell 4
 have s5 : w4.cell? ⟨w3.heap.size, 5, none⟩ = some (.string ⟨#[]⟩) := hWas4.out.cell 5
 have s6 : w4.cell? ⟨w3.heap.size, 6, none⟩ = some (.int .i64 0) := hWas4.out.cell 6
 have s7 : w4.cell? ⟨w3.heap.size, 7, none⟩ = some (.bool false) := hWas4.out.cell 7
 have s8 : w4.cell? ⟨w3.heap.size, 8, none⟩ = some (.int .i64 0) := hWas4.out.cell 8
 go_wp2_with fail
 refine (out_done hO4.out xseq id (by (try dsimp only); omega)).mono ?_
 rintro e w7 ⟨vp, vc, cs', rfl, hcs, hob, hpk, hch, hst7⟩
 have hfin : (SS.fin ⟨⟨xcl, xwin, xroom, xseq, xid, xl⟩, Xp, Xc⟩ xseq id) = ⟨⟨xcl, xwin, xroom, xseq, xid, xl⟩, Xp, cs'⟩ := by rw [hcs]; rfl
 replace hfin := hid hfin;obtain ⟨ap, cp, rfl⟩ := own_slice hpk
 obtain ⟨ac, cc, rfl⟩ := own_slice hch
 have hst67 := hst4.trans hst7
 have hnd4 := hst4.not hnd (bDid5.out.lt)
 have hDid7 := hDid4.out.wrote hst7.wrote hnd4
 have y0 : w7.cell? ⟨w.heap.size, 0, none⟩ = some (.slice none 0 0) := hDid7.cell 0
 have y1 : w7.cell? ⟨w.heap.size, 1, none⟩ = some (.slice none 0 0) := hDid7.cell 1
 have z0 := hDid7.frozen 0
 have z1 := hDid7.frozen 1
 have HPK := hid hpk;have HCH := hid hch;clear hpk hch hcs;go_wp2
 refine bodyPost_gen (fun W' => W'.cell? ⟨w.heap.size, 0, none⟩ = some (.slice ap Xp.length cp) /\ W'.cell? ⟨w.heap.size, 1, none⟩ = some (.slice ac cs'.length cc) /\ Wrote [w.heap.size] w7 W') ⟨((hDid7.set 0 _).set 1 _).cell 0, ((hDid7.set 0 _).set 1 _).cell 1, (Wrote.setCell (M := [w.heap.size]) w7 ⟨w.heap.size, 0, none⟩ (by simp) _).trans (Wrote.setCell _ ⟨w.heap.size, 1, none⟩ (by simp) _)⟩ ?_
 rintro W' ⟨e0, e1, hW⟩
 refine bodyPost_ret (v := .tuple #[.agg #[.slice ap Xp.length cp, .slice ac cs'.length cc], .int .i64 0]) (by simp [results, Tryz.results43, go_sem, e0, e1]) rfl ?_
 have hS := (hS0.trans hst67).fresh hW (by simp)
 have hnf7 := hst7.not hnd4 hDid4.out.lt
 have hg1 : 1 ∉ [w.heap.size] := by have := h.tz.lt; simp only [List.mem_singleton]; omega
 rw [hfin.out]
 refine ⟨_, _, _, rfl, ((hob 0 (Nat.zero_le _)).out hW (by simpa using hnf7) hg1).rebase (Nat.le_refl _), ⟨rfl, rfl⟩, rfl, hS, not_own HPK.out hW (fun x hx hb => ?_), not_own HCH.out hW (fun x hx hb => ?_)⟩
 ·simp at hx; subst hx
  exact block_not_row hDid7 (by decide) HPK.out (mem_blk.1 hb).symm
 ·simp at hx; subst hx
  exact block_not_row hDid7 (by decide) HCH.out (mem_blk.1 hb).symm
end
section
theorem rec_Check_sess (client : List UInt8) (seq id : Int) (w : World) (hc : client.length <= 9223372036854775807) :
  Calls Tryz.prog 53 #[.agg (RowV.mk 1 client seq id [] [] 0 false 0).vals] w fun e w' => e = .returned (.int .i64 (if sessMay ⟨1, client, seq, id, [], [], 0, false, 0⟩ then 0 else 2)) /\ Below w.heap.size w w' := by
 have C7 := hid fun w => kinds1 ⟨1, client, seq, id, [], [], 0, false, 0⟩ w hc
 have C8 := hid fun w => kinds2 ⟨1, client, seq, id, [], [], 0, false, 0⟩ w
 have CK := hid rec_kinds;clear hc;obtain ⟨bm, hbm⟩ : ∃ b, sessMay ⟨1, client, seq, id, [], [], 0, false, 0⟩ = b := ⟨_, rfl⟩
 rw [hbm] at C7 ⊢
 clear hbm;unfold sessHas at C8
 unfold RowV.vals at *
 go_enter Tryz.func53, Tryz.ntmps53
 go_wp2
 refine regionQ [(1000, fun w' => w'.cell? ⟨w.heap.size, 0, none⟩ = some (.int .i64 1))] (by kernel_rfl) ⟨by go_simp, trivial⟩ fun KQ hKQ => ?_
 refine tQ [1] ?_;refine lQ 2 0 ?_;refine stepQ2 0 7 rfl rfl (by kernel_rfl) (by decide) (by kernel_rfl) (by kernel_rfl) (fun K hK => ?_) (fun K hK => ?_)
 ·try simp only [GO]
  go_simp;refine (CK.out _).mono ?_
  rintro e w1 ⟨rfl, hm, hb⟩
  replace hb := undrew hb
  replace hm : w1.heap[w.heap.size + 1]? = some (.map kindsE 5) := by simpa using hm
  have hlt : w.heap.size + 1 < w1.heap.size := by
   rcases Nat.lt_or_ge (w.heap.size + 1) w1.heap.size with h | h
   ·exact h
   ·rw [Array.getElem?_eq_none h] at hm; cases hm
  have hm' : ∀ o, (w1.alloc o).heap[w.heap.size + 1]? = some (.map kindsE 5) := fun o => (Below.heap_alloc _ _ _ hlt).trans hm
  have HL' := fun o => run_lookup_at (P := Tryz.prog) 189 30 187 .i64 Tryz.underlying189 Tryz.underlying30 _ _ kindsE 5 (hm' o) 1 _ 0 rfl true
  have HL := run_lookup_at (P := Tryz.prog) 189 30 187 .i64 Tryz.underlying189 Tryz.underlying30 _ _ kindsE 5 hm 1 _ 0 rfl true
  simp only [kindV] at HL HL'
  refine hK _ _ ⟨⟨fun _ => cellB hb (j := 0) rfl, trivial⟩, ?_⟩
  clear hK K;refine stepQ2 3 7 rfl rfl (by kernel_rfl) (by decide) (by kernel_rfl) (by kernel_rfl) (fun K hK => ?_) (fun K hK => ?_)
  ·try simp only [GO]
   go_simp;refine hK _ _ ⟨⟨fun _ => cellB hb (j := 0) rfl, trivial⟩, ?_⟩
   clear hK K;refine tQ [4, 5, 6] ?_;refine sQ 7 fun K hK => ?_;simp only [GO];go_simp;refine hK _ _ ⟨⟨fun _ => cellB (hb.alloc hb.size _) (j := 0) rfl, trivial⟩, ?_⟩
   clear hK K;refine sQ 8 fun K hK => ?_;simp only [GO];go_simp;refine hK _ _ ⟨⟨fun _ => cellB (hb.alloc hb.size _) (j := 0) rfl, trivial⟩, ?_⟩
   clear hK K;refine sQ 9 fun K hK => ?_;simp only [GO];go_simp;refine hK _ _ ⟨⟨fun _ => cellB (hb.alloc hb.size _) (j := 0) rfl, trivial⟩, ?_⟩
   clear hK K;refine dQ (hKQ.out _ _ ?_);clear hKQ KQ;have g0 := cB hb 0 rfl
   have g1 := cB hb 1 rfl
   have g2 := cB hb 2 rfl
   have g3 := cB hb 3 rfl
   have g4 := cB hb 4 rfl
   have g5 := cB hb 5 rfl
   have g6 := cB hb 6 rfl
   have g7 := cB hb 7 rfl
   have g8 := cB hb 8 rfl
   cases bm
   ·go_wp2_with (go_at_call 149; refine (C7.out _).mono ?_; rintro e w2 ⟨rfl, hb2⟩; replace hb2 := (hb.alloc hb.size _).trans (hb2.mono (hb.alloc hb.size _).size))
    go_ret
    exact ⟨rfl, ((Below.refl w.heap.size w).alloc (Nat.le_refl _) _).trans (hb2.mono (by simp))⟩
   ·go_wp2_with (first
     | (go_at_call 149; refine (C7.out _).mono ?_; rintro e w2 ⟨rfl, hb2⟩; have f2 := cellB (w := w1) hb2 (j := 2) rfl; replace hb2 := (hb.alloc hb.size _).trans (hb2.mono (hb.alloc hb.size _).size)
        have g0 := cellB hb2 (j := 0) rfl
        have g1 := cellB hb2 (j := 1) rfl
        have g2 := cellB hb2 (j := 2) rfl
        have g3 := cellB hb2 (j := 3) rfl
        have g4 := cellB hb2 (j := 4) rfl
        have g5 := cellB hb2 (j := 5) rfl
        have g6 := cellB hb2 (j := 6) rfl
        have g7 := cellB hb2 (j := 7) rfl
        have g8 := cellB hb2 (j := 8) rfl
      )
     | (go_at_call 152; refine (C8.out _).mono ?_; rintro e w3 ⟨rfl, hb3⟩; replace hb3 := hb2.trans (hb3.mono hb2.size)
        have g0 := cB hb3 0 rfl
        have g1 := cB hb3 1 rfl
        have g2 := cB hb3 2 rfl
        have g3 := cB hb3 3 rfl
        have g4 := cB hb3 4 rfl
        have g5 := cB hb3 5 rfl
        have g6 := cB hb3 6 rfl
        have g7 := cB hb3 7 rfl
        have g8 := cB hb3 8 rfl
      ))
    go_ret
    exact ⟨rfl, (((Below.refl w.heap.size w).alloc (Nat.le_refl _) _).trans (hb3.mono (by simp))).alloc (by have := hb3.size; simp at this; omega) _⟩
  ·try simp only [GO]
   go_simp;refine hK _ _ ⟨⟨fun _ => cellB (hb.alloc hb.size _) (j := 0) rfl, trivial⟩, ?_⟩
   clear hK K;refine sQ 3 fun K hK => ?_;simp only [GO];go_simp;refine hK _ _ ⟨⟨fun _ => cellB (hb.alloc hb.size _) (j := 0) rfl, trivial⟩, ?_⟩
   clear hK K;refine tQ [4, 5, 6] ?_;refine sQ 8 fun K hK => ?_;simp only [GO];go_simp;refine hK _ _ ⟨⟨fun _ => cellB (hb.alloc hb.size _) (j := 0) rfl, trivial⟩, ?_⟩
   clear hK K;refine sQ 9 fun K hK => ?_;simp only [GO];go_simp;refine hK _ _ ⟨⟨fun _ => cellB (hb.alloc hb.size _) (j := 0) rfl, trivial⟩, ?_⟩
   clear hK K;refine dQ (hKQ.out _ _ ?_);clear hKQ KQ;have g0 := cB hb 0 rfl
   have g1 := cB hb 1 rfl
   have g2 := cB hb 2 rfl
   have g3 := cB hb 3 rfl
   have g4 := cB hb 4 rfl
   have g5 := cB hb 5 rfl
   have g6 := cB hb 6 rfl
   have g7 := cB hb 7 rfl
   have g8 := cB hb 8 rfl
   cases bm
   ·go_wp2_with (go_at_call 149; refine (C7.out _).mono ?_; rintro e w2 ⟨rfl, hb2⟩; replace hb2 := (hb.alloc hb.size _).trans (hb2.mono (hb.alloc hb.size _).size))
    go_ret
    exact ⟨rfl, ((Below.refl w.heap.size w).alloc (Nat.le_refl _) _).trans (hb2.mono (by simp))⟩
   ·go_wp2_with (first
     | (go_at_call 149; refine (C7.out _).mono ?_; rintro e w2 ⟨rfl, hb2⟩; have f2 := cellB (w := w1) hb2 (j := 2) rfl; replace hb2 := (hb.alloc hb.size _).trans (hb2.mono (hb.alloc hb.size _).size)
        have g0 := cellB hb2 (j := 0) rfl
        have g1 := cellB hb2 (j := 1) rfl
        have g2 := cellB hb2 (j := 2) rfl
        have g3 := cellB hb2 (j := 3) rfl
        have g4 := cellB hb2 (j := 4) rfl
        have g5 := cellB hb2 (j := 5) rfl
        have g6 := cellB hb2 (j := 6) rfl
        have g7 := cellB hb2 (j := 7) rfl
        have g8 := cellB hb2 (j := 8) rfl
      )
     | (go_at_call 152; refine (C8.out _).mono ?_; rintro e w3 ⟨rfl, hb3⟩; replace hb3 := hb2.trans (hb3.mono hb2.size)
        have g0 := cB hb3 0 rfl
        have g1 := cB hb3 1 rfl
        have g2 := cB hb3 2 rfl
        have g3 := cB hb3 3 rfl
        have g4 := cB hb3 4 rfl
        have g5 := cB hb3 5 rfl
        have g6 := cB hb3 6 rfl
        have g7 := cB hb3 7 rfl
        have g8 := cB hb3 8 rfl
      ))
    go_ret
    exact ⟨rfl, (((Below.refl w.heap.size w).alloc (Nat.le_refl _) _).trans (hb3.mono (by simp))).alloc (by have := hb3.size; simp at this; omega) _⟩
 ·try simp only [GO]
  go_simp;refine hK _ _ ⟨⟨fun _ => by go_simp, trivial⟩, ?_⟩
  clear hK K;refine sQ 0 fun K hK => ?_;simp only [GO];go_simp;refine (CK.out _).mono ?_
  rintro e w1 ⟨rfl, hm, hb⟩
  replace hb := undrew hb
  have hbr := below_pop hb
  have k0 := cellB hb (j := 0) rfl
  have k1 := cellB hb (j := 1) rfl
  have k2 := cellB hb (j := 2) rfl
  have k3 := cellB hb (j := 3) rfl
  have k4 := cellB hb (j := 4) rfl
  replace hm : w1.heap[w.heap.size + 2]? = some (.map kindsE 5) := by simpa using hm
  have HL := run_lookup_at (P := Tryz.prog) 189 30 187 .i64 Tryz.underlying189 Tryz.underlying30 _ _ kindsE 5 hm 1 _ 0 rfl true
  simp only [kindV] at HL
  refine hK _ _ ⟨⟨fun _ => cellB hbr (j := 0) rfl, trivial⟩, ?_⟩
  clear hK K;refine sQ 3 fun K hK => ?_;simp only [GO];go_simp;refine hK _ _ ⟨⟨fun _ => cellB hbr (j := 0) rfl, trivial⟩, ?_⟩
  clear hK K;refine tQ [4, 5, 6] ?_;refine sQ 8 fun K hK => ?_;simp only [GO];have z0 := frozenB hb 0
  have z1 := frozenB hb 1
  have z2 := frozenB hb 2
  have z3 := frozenB hb 3
  have z4 := frozenB hb 4
  simp only [World.size_alloc] at k0 k1 k2 k3 k4 z0 z1 z2 z3 z4
  go_simp;have hbs := fun v0 v1 v2 v3 v4 => (((((hbr.setCell (p := ⟨w.heap.size + 1, 0, none⟩) (by simp) v0).setCell (p := ⟨w.heap.size + 1, 1, none⟩) (by simp) v1).setCell (p := ⟨w.heap.size + 1, 2, none⟩) (by simp) v2).setCell (p := ⟨w.heap.size + 1, 3, none⟩) (by simp) v3).setCell (p := ⟨w.heap.size + 1, 4, none⟩) (by simp) v4)
  refine hK _ _ ⟨⟨fun _ => cellB (hbs _ _ _ _ _) (j := 0) rfl, trivial⟩, ?_⟩
  clear hK K;refine atR_gen (fun w' => Below (w.alloc (.cells #[.int .i64 1, .string ⟨client.toArray⟩, .int .i64 seq, .int .i64 id, .string ⟨#[]⟩, .string ⟨#[]⟩, .int .i64 0, .bool false, .int .i64 0] 33)).heap.size (w.alloc (.cells #[.int .i64 1, .string ⟨client.toArray⟩, .int .i64 seq, .int .i64 id, .string ⟨#[]⟩, .string ⟨#[]⟩, .int .i64 0, .bool false, .int .i64 0] 33)) w' /\ w'.cell? ⟨w.heap.size + 1, 1, none⟩ = some (.func (.func 149) #[] #[]) /\ w'.cell? ⟨w.heap.size + 1, 2, none⟩ = some (.func (.func 152) #[] #[]) /\ w.heap.size + 1 < w'.heap.size) ⟨hbs _ _ _ _ _, by go_simp, by go_simp, by have := hb.size; simp at this ⊢; omega⟩ fun w2 ⟨hb, f1, f2, hlt⟩ => ?_
  refine sQ 9 fun K hK => ?_;simp only [GO];go_simp;refine hK _ _ ⟨⟨fun _ => cellB hb (j := 0) rfl, trivial⟩, ?_⟩
  clear hK K;refine dQ (hKQ.out _ _ ?_);clear hKQ KQ;have g0 := cellB hb (j := 0) rfl
  have g1 := cellB hb (j := 1) rfl
  have g2 := cellB hb (j := 2) rfl
  have g3 := cellB hb (j := 3) rfl
  have g4 := cellB hb (j := 4) rfl
  have g5 := cellB hb (j := 5) rfl
  have g6 := cellB hb (j := 6) rfl
  have g7 := cellB hb (j := 7) rfl
  have g8 := cellB hb (j := 8) rfl
  cases bm
  ·go_wp2_with (go_at_call 149; refine (C7.out _).mono ?_; rintro e w3 ⟨rfl, hb2⟩; replace hb2 := hb.trans (hb2.mono hb.size))
   go_ret
   exact ⟨rfl, below_pop hb2⟩
  ·go_wp2_with (first
    | (go_at_call 149; refine (C7.out _).mono ?_; rintro e w3 ⟨rfl, hb3⟩; have f3 := (hb3.cell (p := ⟨w.heap.size + 1, 2, none⟩) hlt).trans f2; replace hb3 := hb.trans (hb3.mono hb.size)
       have g0 := cellB hb3 (j := 0) rfl
       have g1 := cellB hb3 (j := 1) rfl
       have g2 := cellB hb3 (j := 2) rfl
       have g3 := cellB hb3 (j := 3) rfl
       have g4 := cellB hb3 (j := 4) rfl
       have g5 := cellB hb3 (j := 5) rfl
       have g6 := cellB hb3 (j := 6) rfl
       have g7 := cellB hb3 (j := 7) rfl
       have g8 := cellB hb3 (j := 8) rfl
     )
    | (go_at_call 152; refine (C8.out _).mono ?_; rintro e w4 ⟨rfl, hb4⟩; replace hb4 := hb3.trans (hb4.mono hb3.size)
       have g0 := cB hb4 0 rfl
       have g1 := cB hb4 1 rfl
       have g2 := cB hb4 2 rfl
       have g3 := cB hb4 3 rfl
       have g4 := cB hb4 4 rfl
       have g5 := cB hb4 5 rfl
       have g6 := cB hb4 6 rfl
       have g7 := cB hb4 7 rfl
       have g8 := cB hb4 8 rfl
     ))
   go_ret
   exact ⟨rfl, ((below_pop hb4).alloc (by have := (below_pop hb4).size; omega) _)⟩
end
end Go.Proofs.YtoinabapaeebfaaGreatDoor
