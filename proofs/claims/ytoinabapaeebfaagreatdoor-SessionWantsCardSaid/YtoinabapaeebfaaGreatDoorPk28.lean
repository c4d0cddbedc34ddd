/- Contracts of package outbox (part 19): Anew. · Rows of an outbox, told. · Blocks as wholes: loads, stores, results. -/
import Derived.Test.YtoinabapaeebfaaGreatDoorPk23
import Derived.Deep.MidRow
set_option linter.unusedSimpArgs false
set_option linter.unusedVariables false
namespace Go.Proofs.YtoinabapaeebfaaGreatDoor
open Go.RowKit Go.Shelf


/-- What is said again of a row. -/
def anewP (r : RowV) : List PackV := if r.stage = 2 then [r.pub true] else if r.stage = 3 then [pubrel r.id] else []
def OS.again (s : OS) : SS := ⟨s, s.l.flatMap anewP, []⟩
theorem anew_len (l : List RowV) : (l.flatMap anewP).length ≤ l.length := by
  induction l with
  | nil => simp
  | cons r l ih =>
    rw [List.flatMap_cons, List.length_append, List.length_cons]
    have : (anewP r).length ≤ 1 := by unfold anewP; split <;> (try split) <;> simp
    omega
theorem anew_take (l : List RowV) (k : Nat) (r : RowV) (h : l[k]? = some r) : (l.take (k + 1)).flatMap anewP = (l.take k).flatMap anewP ++ anewP r := by
  rw [List.take_add_one, h]
  simp

set_option maxRecDepth 100000 in
set_option maxHeartbeats 2000000 in
theorem out_Anew {w : World} {B : Nat} {L : Lay} {s : OS} (h : OB w B L s [] []) (hn : L.vp = .slice none 0 0 ∧ L.vc = .slice none 0 0) :
    Calls Tryz.prog 48 #[.pointer (some ⟨L.p, 0, none⟩)] w fun e w' => ∃ vp vc L', e = .returned (.tuple #[.agg #[vp, vc], .int .i64 0]) ∧
      DidAt w w' L L' (s.again.all.fin s.seq s.id).s vp vc (s.again.all.fin s.seq s.id).ps (s.again.all.fin s.seq s.id).cs := by
  obtain ⟨X, hX⟩ : ∃ X, s.again.all = X := ⟨_, rfl⟩
  have hroom : s.l.length ≤ 1000 := by have := h.ok.room; omega
  have hXl := all_len s.again hroom
  have hXs := all_same s.again
  rw [hX] at hXl hXs ⊢
  have hal := anew_len s.l
  obtain ⟨Xs, Xp, Xc⟩ := X
  obtain ⟨xcl, xwin, xroom, xseq, xid, xl⟩ := Xs
  obtain ⟨client, window, room, seq, id, l⟩ := s
  obtain ⟨p, ib, sb, vl, vp, vc, rb, W⟩ := L
  dsimp only [OS.again] at hn hXl hXs hal hroom hX ⊢
  obtain ⟨rfl, rfl⟩ := hn
  have ex1 : xcl = client := hXs.1
  have ex2 : xseq = seq := hXs.2
  subst ex1 ex2
  simp only [List.length_nil, Nat.zero_add] at hXl
  clear hXs
  replace h := OB.rebase (L := ⟨p, ib, sb, vl, .slice none 0 0, .slice none 0 0, rb, W⟩) h (Nat.le_refl _)
  have CN := hid fun (w1 : World) (hb : Below w.heap.size w w1) => out_none (h.below hb)
  have CS := hid fun (w1 : World) (hb : Below w.heap.size w w1) => out_Session (h.below hb)
  dsimp only [OS.session, RowV.vals] at CS
  have hX := hid hX
  have hp : p < w.heap.size := h.box.lt
  have hfo0 : ∀ x ∈ (Lay.foot ⟨p, ib, sb, vl, .slice none 0 0, .slice none 0 0, rb, W⟩), x < w.heap.size := h.lt
  go_enter Tryz.func48, Tryz.ntmps48
  go_wp2_with fail
  refine (CN.out _ ((Below.refl _ w).alloc (Nat.le_refl _) _)).mono ?_
  rintro e w1 ⟨rfl, rfl⟩
  go_wp2_with fail
  refine (CS.out _ ((Below.refl _ w).alloc (Nat.le_refl _) _)).mono ?_
  rintro e w3 ⟨rfl, hb3⟩
  have hbw : Below w.heap.size w w3 := ((Below.refl _ w).alloc (Nat.le_refl _) _).trans (hb3.mono (by simp))
  have hz3 : w.heap.size + 1 ≤ w3.heap.size := by have := hb3.size; simp at this; omega
  have hbw2 := hid (hbw.alloc hbw.size (.cells #[.int .i64 1, .string ⟨xcl.toArray⟩, .int .i64 xseq, .int .i64 id, .string ⟨#[]⟩, .string ⟨#[]⟩, .int .i64 0, .bool false, .int .i64 0] 33))
  have bDid := hid (((Blk.new w #[.slice none 0 0, .slice none 0 0] 53).below hb3).alloc (.cells #[.int .i64 1, .string ⟨xcl.toArray⟩, .int .i64 xseq, .int .i64 id, .string ⟨#[]⟩, .string ⟨#[]⟩, .int .i64 0, .bool false, .int .i64 0] 33))
  have bWas := hid (Blk.new w3 #[.int .i64 1, .string ⟨xcl.toArray⟩, .int .i64 xseq, .int .i64 id, .string ⟨#[]⟩, .string ⟨#[]⟩, .int .i64 0, .bool false, .int .i64 0] 33)
  have hO3 := hid (h.below hbw2.out)
  obtain ⟨al, cl, hvl, -⟩ := own_cell h.rows
  dsimp only at hvl
  subst hvl
  have m6 : ∀ o, (w3.alloc o).cell? ⟨p, 6, none⟩ = some (.slice al l.length cl) := fun o => ((h.below hbw).alloc o).box.cell 6
  go_wp2_with fail
  obtain ⟨W3, hW3⟩ : ∃ W3, w3.alloc (.cells #[.int .i64 1, .string ⟨xcl.toArray⟩, .int .i64 xseq, .int .i64 id, .string ⟨#[]⟩, .string ⟨#[]⟩, .int .i64 0, .bool false, .int .i64 0] 33) = W3 := ⟨_, rfl⟩
  have hzW : W3.heap.size = w3.heap.size + 1 := by rw [← hW3]; simp
  rw [hW3] at hbw2 bDid bWas hO3 ⊢
  clear hW3 m6
  go_loopw [17] (fun i wr => ∃ (k : Nat) (v : Value), i = .int .i64 k ∧ k ≤ l.length ∧ Hid (OB wr w.heap.size ⟨p, ib, sb, .slice al l.length cl, v, .slice none 0 0, rb, W⟩ ⟨xcl, window, room, xseq, id, l⟩ ((l.take k).flatMap anewP) []) ∧ Hid (Stp (Lay.foot ⟨p, ib, sb, .slice al l.length cl, .slice none 0 0, .slice none 0 0, rb, W⟩) (Lay.foot ⟨p, ib, sb, .slice al l.length cl, v, .slice none 0 0, rb, W⟩) W3 wr)) (fun i _ => l.length - (intOf i).toNat)
  case atStart => exact ⟨0, _, rfl, Nat.zero_le _, hO3, hid (Stp.refl _ _)⟩
  case round =>
    obtain ⟨k, v, rfl, hk, hOk, hSk⟩ := hrel
    rcases Nat.lt_or_ge k l.length with hlt | hge
    · have dk : decide ((k : Int) < (l.length : Int)) = true := decide_eq_true (by omega)
      obtain ⟨r, hr⟩ : ∃ r, l[k]? = some r := ⟨_, List.getElem?_eq_getElem hlt⟩
      obtain ⟨b, g, cap, hb, A⟩ := hOk.out.atRow k r hr
      have hvA := A.vl
      dsimp only at hvA
      cases hvA
      have ka := A.arr
      have kl := A.le
      have hrow := hid A.row
      have hnk := hid (anew_take l k r hr)
      have c8 : wr.cell? ⟨b, 8, none⟩ = some (.int .i64 r.stage) := A.row.cell 8
      have c3 : wr.cell? ⟨b, 3, none⟩ = some (.int .i64 r.id) := A.row.cell 3
      have hlk : ((l.take k).flatMap anewP).length ≤ 1000 := by have h1 := anew_len (l.take k); have h2 : (l.take k).length ≤ l.length := (by rw [List.length_take]; exact Nat.min_le_right _ _); omega
      clear A
      by_cases h2 : r.stage = 2
      · have e2 : (r.stage == 2) = true := by simpa using h2
        have han : anewP r = [r.pub true] := by unfold anewP; rw [if_pos h2]
        rw [h2] at c8
        go_wp2_with fail
        refine (out_publish b r true _ hrow.out).mono ?_
        rintro e w5 ⟨rfl, hb5⟩
        go_wp2_with (refine wpList_plain rfl fun _ hK => wp_slice_one _ rfl ePack (by decide) (by decide) _ rfl rfl (hK _ _ ?_))
        refine (out_says ((hOk.out.below hb5).alloc _) (r.pub true) w5.heap.size (Blk.new _ _ _) (by omega)).mono ?_
        rintro e w6 ⟨rfl, v6, hO6, hst6⟩
        have hO6 := hid hO6
        go_wp2
        go_roundw
        case rel => exact ⟨k + 1, v6, by go_num, by omega, by rw [hnk.out, han]; exact hO6, hid (hSk.out.trans ((Stp.below hb5).trans ((Stp.below ((Below.refl _ _).alloc (Nat.le_refl _) _)).trans hst6)))⟩
        case measure => simp [intOf]; omega
      · have e2 : (r.stage == 2) = false := by simpa using h2
        by_cases h3 : r.stage = 3
        · have han : anewP r = [pubrel r.id] := by unfold anewP; rw [if_neg h2, if_pos h3]
          rw [h3] at c8
          go_wp2_with fail
          refine (out_says (hOk.out.alloc _) (pubrel r.id) wr.heap.size (Blk.new_at _ _ _ _ rfl) (by omega)).mono ?_
          rintro e w6 ⟨rfl, v6, hO6, hst6⟩
          have hO6 := hid hO6
          go_wp2
          go_roundw
          case rel => exact ⟨k + 1, v6, by go_num, by omega, by rw [hnk.out, han]; exact hO6, hid (hSk.out.trans ((Stp.below ((Below.refl _ _).alloc (Nat.le_refl _) _)).trans hst6))⟩
          case measure => simp [intOf]; omega
        · have e3 : (r.stage == 3) = false := by simpa using h3
          have han : anewP r = [] := by unfold anewP; rw [if_neg h2, if_neg h3]
          go_wp2
          go_roundw
          case rel => exact ⟨k + 1, v, by go_num, by omega, by rw [hnk.out, han, List.append_nil]; exact hOk, hSk⟩
          case measure => simp [intOf]; omega
    · obtain rfl : k = l.length := by omega
      have dk : decide ((l.length : Int) < (l.length : Int)) = false := by simp
      rw [List.take_length] at hOk
      have bDidw := hid (bDid.out.wrote hSk.out.wrote (fun hx => by have := hfo0 _ hx; omega))
      have bWasw := hid (bWas.out.wrote hSk.out.wrote (fun hx => by have := hfo0 _ hx; omega))
      have hnW := hSk.out.not (x := w3.heap.size) (fun hx => by have := hfo0 _ hx; omega) (by omega)
      have hnD := hSk.out.not (x := w.heap.size) (fun hx => by have := hfo0 _ hx; omega) (by omega)
      have hS0 := (Stp.below (F := Lay.foot ⟨p, ib, sb, .slice al l.length cl, .slice none 0 0, .slice none 0 0, rb, W⟩) hbw2.out).trans hSk.out
      have SEND := hid fun (W' : World) (hW : W' = wr) => by
        subst hW
        have h1 := out_send (x0 := ⟨⟨xcl, window, room, xseq, id, l⟩, l.flatMap anewP, []⟩) hOk.out (by show (l.flatMap anewP).length ≤ 1000; omega) (by simp)
        rw [hX.out] at h1
        exact h1
      dsimp only at SEND
      go_wp2_with fail
      refine (SEND.out _ rfl).mono ?_
      rintro e w4 ⟨rfl, v4, u4, V4, hO4, hst4⟩
      have hfo : ∀ x ∈ (Lay.foot ⟨p, ib, sb, .slice al l.length cl, .slice none 0 0, .slice none 0 0, rb, W⟩), x < w.heap.size := h.lt
      have hnw : w3.heap.size ∉ (Lay.foot ⟨p,ib,sb,.slice al l.length cl,v,.slice none 0 0,rb,W⟩) := hnW
      have hnd : w.heap.size ∉ (Lay.foot ⟨p,ib,sb,.slice al l.length cl,v,.slice none 0 0,rb,W⟩) := hnD
      have hWas4 := hid (bWasw.out.wrote hst4.wrote hnw)
      have hDid4 := hid (bDidw.out.wrote hst4.wrote hnd)
      have hO4 := hid hO4
      have s0 : w4.cell? ⟨w3.heap.size, 0, none⟩ = some (.int .i64 1) := hWas4.out.cell 0
      have s1 : w4.cell? ⟨w3.heap.size, 1, none⟩ = some (.string ⟨xcl.toArray⟩) := hWas4.out.cell 1
      have s2 : w4.cell? ⟨w3.heap.size, 2, none⟩ = some (.int .i64 xseq) := hWas4.out.cell 2
      have s3 : w4.cell? ⟨w3.heap.size, 3, none⟩ = some (.int .i64 id) := hWas4.out.cell 3
      have s4 : w4.cell? ⟨w3.heap.size, 4, none⟩ = some (.string ⟨#[]⟩) := hWas4.out.cell 4
      have s5 : w4.cell? ⟨w3.heap.size, 5, none⟩ = some (.string ⟨#[]⟩) := hWas4.out.cell 5
      have s6 : w4.cell? ⟨w3.heap.size, 6, none⟩ = some (.int .i64 0) := hWas4.out.cell 6
      have s7 : w4.cell? ⟨w3.heap.size, 7, none⟩ = some (.bool false) := hWas4.out.cell 7
      have s8 : w4.cell? ⟨w3.heap.size, 8, none⟩ = some (.int .i64 0) := hWas4.out.cell 8
      go_wp2_with fail
      refine (out_done hO4.out xseq id (by (try dsimp only); omega)).mono ?_
      rintro e w7 ⟨vp, vc, cs', rfl, hcs, hob, hpk, hch, hst7⟩
      have hfin : (SS.fin ⟨⟨xcl, xwin, xroom, xseq, xid, xl⟩, Xp, Xc⟩ xseq id) = ⟨⟨xcl, xwin, xroom, xseq, xid, xl⟩, Xp, cs'⟩ := by rw [hcs]; rfl
      replace hfin := hid hfin
      obtain ⟨ap, cp, rfl⟩ := own_slice hpk
      obtain ⟨ac, cc, rfl⟩ := own_slice hch
      have hst67 := hst4.trans hst7
      have hnd4 := hst4.not hnd (bDidw.out.lt)
      have hDid7 := hDid4.out.wrote hst7.wrote hnd4
      have y0 : w7.cell? ⟨w.heap.size, 0, none⟩ = some (.slice none 0 0) := hDid7.cell 0
      have y1 : w7.cell? ⟨w.heap.size, 1, none⟩ = some (.slice none 0 0) := hDid7.cell 1
      have z0 := hDid7.frozen 0
      have z1 := hDid7.frozen 1
      have HPK := hid hpk
      have HCH := hid hch
      clear hpk hch hcs
      go_wp2
      refine bodyPost_gen (fun W' => W'.cell? ⟨w.heap.size, 0, none⟩ = some (.slice ap Xp.length cp) ∧ W'.cell? ⟨w.heap.size, 1, none⟩ = some (.slice ac cs'.length cc) ∧ Wrote [w.heap.size] w7 W') ⟨((hDid7.set 0 _).set 1 _).cell 0, ((hDid7.set 0 _).set 1 _).cell 1, (Wrote.setCell (M := [w.heap.size]) w7 ⟨w.heap.size, 0, none⟩ (by simp) _).trans (Wrote.setCell _ ⟨w.heap.size, 1, none⟩ (by simp) _)⟩ ?_
      rintro W' ⟨e0, e1, hW⟩
      refine bodyPost_ret (v := .tuple #[.agg #[.slice ap Xp.length cp, .slice ac cs'.length cc], .int .i64 0]) (by simp [results, Tryz.results48, go_sem, e0, e1]) rfl ?_
      have hS := (hS0.trans hst67).fresh hW (by simp)
      have hnf7 := hst7.not hnd4 hDid4.out.lt
      have hg1 : 1 ∉ [w.heap.size] := by have := h.tz.lt; simp only [List.mem_singleton]; omega
      rw [hfin.out]
      refine ⟨_, _, _, rfl, ((hob 0 (Nat.zero_le _)).out hW (by simpa using hnf7) hg1).rebase (Nat.le_refl _), ⟨rfl, rfl⟩, rfl, hS, not_own HPK.out hW (fun x hx hb => ?_), not_own HCH.out hW (fun x hx hb => ?_)⟩
      · simp at hx; subst hx
        exact block_not_row hDid7 (by decide) HPK.out (mem_blk.1 hb).symm
      · simp at hx; subst hx
        exact block_not_row hDid7 (by decide) HCH.out (mem_blk.1 hb).symm
end Go.Proofs.YtoinabapaeebfaaGreatDoor
namespace Go.Proofs.YtoinabapaeebfaaGreatDoor
open Go.RowKit Go.Shelf

def RowV.cl (r : RowV) : List Value := r.vals.toList
theorem eRow : ElemT Tryz.prog 34 33 (.agg (RowV.vals ⟨0, [], 0, 0, [], [], 0, false, 0⟩)) 9 96 := ⟨Tryz.underlying34, by kernel_rfl, by kernel_rfl⟩
theorem RowV.cllen (r : RowV) : r.cl.length = 9 := rfl
theorem RowV.one (r : RowV) : ∀ u ∈ r.cl, u.oneCell' = true := by simp [RowV.cl, RowV.vals, Value.oneCell']
/-- Rows in a row of one's own. -/
def RowsAt (w : World) (base : Nat) (v : Value) (l : List RowV) : Prop := w.ownsRow base 33 9 v l.length (l.flatMap RowV.cl)
theorem Blk.range {w : World} {b : Nat} {cs : Array Value} {T : TypeId} (h : Blk w b cs T) : w.rangeAt b 0 cs.toList := fun j v hj => by
  rw [Nat.zero_add, h.cell j]
  simpa using hj

set_option maxRecDepth 100000 in
set_option maxHeartbeats 1000000 in
theorem out_Rows {w : World} {B : Nat} {L : Lay} {s : OS} {ps : List PackV} {cs : List ChangeV} (h : OB w B L s ps cs) :
    Calls Tryz.prog 16 #[.pointer (some ⟨L.p, 0, none⟩)] w fun e w' => ∃ v, e = .returned v ∧ RowsAt w' w.heap.size v s.l ∧ Below w.heap.size w w' := by
  have CN := hid (out_none h)
  obtain ⟨al, cl, hvl, -⟩ := own_cell h.rows
  have k6 : w.cell? ⟨L.p, 6, none⟩ = some (.slice al s.l.length cl) := (h.box.cell 6).trans (by simp [boxCells, hvl])
  have hroom : s.l.length ≤ 1000 := by have := h.ok.room; omega
  have H := hid h
  go_enter Tryz.func16, Tryz.ntmps16
  go_wp2_with (go_at_call 58; refine CN.out.mono ?_; rintro e w1 ⟨rfl, rfl⟩)
  go_loopw [3, 13] (fun v' i wr => ∃ (k : Nat) (v : Value), v = v' ∧ i = .int .i64 k ∧ k ≤ s.l.length ∧ Hid (wr.ownsRow w.heap.size 33 9 v k ((s.l.take k).flatMap RowV.cl)) ∧ Hid (Below w.heap.size w wr)) (fun _ i _ => s.l.length - (intOf i).toNat)
  case atStart => exact ⟨0, _, rfl, rfl, Nat.zero_le _, hid (World.ownsRow_nil _ _ _ _), hid (Below.refl _ _)⟩
  case round =>
    obtain ⟨k, v, rfl, rfl, hk, hown, hbr⟩ := hrel
    rcases Nat.lt_or_ge k s.l.length with hlt | hge
    · have dk : decide ((k : Int) < (s.l.length : Int)) = true := decide_eq_true (by omega)
      obtain ⟨r, hr⟩ : ∃ r, s.l[k]? = some r := ⟨_, List.getElem?_eq_getElem hlt⟩
      obtain ⟨b, g, cap, hb, A⟩ := (H.out.below hbr.out).atRow k r hr
      have hvA := A.vl
      rw [hvl] at hvA
      cases hvA
      have ka := A.arr
      have kl := A.le
      have hrow := hid A.row
      have hnk := hid (show (s.l.take (k + 1)).flatMap RowV.cl = (s.l.take k).flatMap RowV.cl ++ r.cl by rw [List.take_add_one, hr]; simp)
      clear A hr
      go_wp2_with (first
        | (refine wpList_load_mid rfl 33 _ rfl b 0 rfl r.cl _ hrow.out.range Tryz.underlying33 rfl (by kernel_rfl) ?_)
        | (refine wpList_plain rfl fun _ hK => wp_slice_one _ rfl eRow (by decide) (by decide) (.agg r.cl.toArray) rfl rfl (hK _ _ ?_))
        | (at_builtin; (refine append_grp rfl _ _ rfl eRow (by decide) w.heap.size v k _ rfl (hown.out.alloc _) wr.heap.size r.cl 33 rfl (Blk.new _ _ _) rfl r.one (by omega) (by omega) (by have := hbr.out.size; simp; omega) ?_); intro v' w1 r1 g1 n1))
      have r1 := hid r1
      have g1 := hid g1
      go_roundw
      case rel =>
        exact ⟨k + 1, _, rfl, by go_num, by omega, by rw [hnk.out]; exact r1, hid ((hbr.out.alloc hbr.out.size _).grown g1.out (by have := hbr.out.size; simp; omega) (fun x hx => (hown.out.lt x hx).1))⟩
      case measure => simp [intOf]; omega
    · obtain rfl : k = s.l.length := by omega
      have dk : decide ((s.l.length : Int) < (s.l.length : Int)) = false := by simp
      rw [List.take_length] at hown
      go_wp2
      go_ret
      exact ⟨_, rfl, hown.out, hbr.out⟩
end Go.Proofs.YtoinabapaeebfaaGreatDoor
namespace Go.Proofs.YtoinabapaeebfaaGreatDoor
open Go.RowKit Go.Shelf

section
variable {P : Program} {w : World} {b : Nat} {cs : Array Value} {T : TypeId}
theorem run_load_blk (h : Blk w b cs T) (ty : TypeId) {d : TypeDesc} (hu : P.underlying ty = some d) (hd : d.isRow = true) (hi : (P.info? ty).map (·.size) = some cs.size) : (Instr.loadAt ty (.pointer (some ⟨b, 0, none⟩))).run P w = .ok (.agg cs) w := by
  have := run_loadAt_mid (P := P) w b 0 ty cs.toList d h.range hu hd (by simpa using hi)
  simpa using this
theorem run_loadVar_blk (h : Blk w b cs T) (ty : TypeId) {d : TypeDesc} (hu : P.underlying ty = some d) (hd : d.isRow = true) (hi : (P.info? ty).map (·.size) = some cs.size) : (loadVar ty ⟨b, 0, none⟩).run P w = .ok (.agg cs) w := by
  have := run_loadVar_mid (P := P) w b 0 ty cs.toList d h.range hu hd (by simpa using hi)
  simpa using this
theorem wpList_load_blk {ops : Array Oper} {rest : List Oper} {op : Oper} {a : Act} {Q : Exit → Act → World → Prop} (hgd : op.guard = none) (ty : TypeId) (x : Operand) (ho : op.op = .load ty x)
    (b : Nat) (cs : Array Value) (hx : a.eval x = .pointer (some ⟨b, 0, none⟩)) (hb : Blk w b cs T) {d : TypeDesc} (hu : P.underlying ty = some d) (hd : d.isRow = true) (hi : (P.info? ty).map (·.size) = some cs.size)
    (h : wpList P ops Q rest (a.put op.dst (.agg cs)) w) : wpList P ops Q (op :: rest) a w :=
  wpList_load_mid hgd ty x ho b 0 hx cs.toList d hb.range hu hd (by simpa using hi) (by simpa using h)
theorem wpList_store_blk {ops : Array Oper} {rest : List Oper} {op : Oper} {a : Act} {Q : Exit → Act → World → Prop} (hgd : op.guard = none) (ty T : TypeId) (x y : Operand) (ho : op.op = .store ty x y) (n : Nat) (hs : ∀ w, (sizeOf ty).run P w = .ok n w)
    (b : Nat) (cur cs : Array Value) (hx : a.eval x = .pointer (some ⟨b, 0, none⟩)) (hy : a.eval y = .agg cs) (hb : Blk w b cur T) (h1 : cs.size = n) (h2 : cur.size = n) (ho1 : ∀ v ∈ cs.toList, v.oneCell' = true)
    (h : ∀ w', Blk w' b cs T → Wrote [b] w w' → wpList P ops Q rest (a.put op.dst undef) w') : wpList P ops Q (op :: rest) a w :=
  wpList_plain hgd fun _ hK => wp_store_whole ty T x y ho n hs b cur cs hx hy hb h1 h2 ho1 fun w' hb' hw' => hK _ _ (h w' hb' hw')
theorem wp_append_grp {o : Oper} {a : Act} {K : Act → World → Prop} {Q : Exit → Act → World → Prop} {t e : TypeId} {z : Value} {size bytes : Nat} (s x : Operand)
    (ho : o.op = .call { callee := .builtin .append, args := #[s, x], argTypes := #[t, t] }) (E : ElemT P t e z size bytes) (hsz : 0 < size)
    (base : Nat) (v : Value) (n : Nat) (xs : List Value) (hs : a.eval s = v) (hown : w.ownsRow base e size v n xs) (g : Nat) (news : List Value) (T : TypeId) (hx : a.eval x = .slice (some ⟨g, 0, none⟩) 1 1) (hg : Blk w g news.toArray T) (hl : news.length = size) (h1 : ∀ u ∈ news, u.oneCell' = true)
    (h63 : n < 100000000) (hbytes : (n + 1) * bytes ≤ 140737488355328) (hbase : base ≤ w.heap.size)
    (h : ∀ v' w', w'.ownsRow base e size v' (n + 1) (xs ++ news) → w.grownBy w' v.ownBlock → (∀ k, v'.ownBlock = some k → v.ownBlock = some k ∨ w.heap.size ≤ k) → K (a.put o.dst v') w') : o.wp P a w K Q := by
  obtain ⟨v', w', hr, h2, h3, h4⟩ := run_append2 (P := P) (w := w) o.type E hsz base v n xs hown ⟨g, 0, none⟩ news hl (fun j u hj => by
    have := hg.cell j
    simp only [List.getElem?_toArray] at this
    rw [hj] at this
    by_cases h0 : j = 0
    · subst h0; simpa [Addr.add] using this
    · simpa [Addr.add, h0] using this) h1 h63 hbytes hbase
  unfold Oper.wp execOp
  simp only [ho, resolve, invoke, builtin, Sem.run_bind, Sem.run_pure, Result.andThen_ok, List.map_toArray, List.map_cons, List.map_nil, hs, hx, hr]
  exact h v' w' h2 h3 h4
theorem results_cc {fn : Func} {a b : Tmp} {t u : TypeId} (h : fn.results = #[.cell a t, .cell b u]) {tmps : Array Value} {p q : Addr} (hp : tmps.getD a undef = .pointer (some p)) (hq : tmps.getD b undef = .pointer (some q)) {v x : Value} (hl : (loadVar t p).run P w = .ok v w) (hu : (loadVar u q).run P w = .ok x w) : (results fn tmps).run P w = .ok (.tuple #[v, x]) w := by
  rw [Array.getD_eq_getD_getElem?] at hp hq
  simp [results, h, hp, hq, asAddr, hl, hu]
theorem results_cct {fn : Func} {a b c : Tmp} {t u : TypeId} (h : fn.results = #[.cell a t, .cell b u, .tmp c]) {tmps : Array Value} {p q : Addr} (hp : tmps.getD a undef = .pointer (some p)) (hq : tmps.getD b undef = .pointer (some q)) {v x y : Value} (hl : (loadVar t p).run P w = .ok v w) (hu : (loadVar u q).run P w = .ok x w) (hy : tmps.getD c undef = y) : (results fn tmps).run P w = .ok (.tuple #[v, x, y]) w := by
  rw [Array.getD_eq_getD_getElem?] at hp hq hy
  simp [results, h, hp, hq, hy, asAddr, hl, hu]
theorem results_ctt {fn : Func} {a b c : Tmp} {t : TypeId} (h : fn.results = #[.cell a t, .tmp b, .tmp c]) {tmps : Array Value} {p : Addr} (hp : tmps.getD a undef = .pointer (some p)) {v x y : Value} (hl : (loadVar t p).run P w = .ok v w) (hx : tmps.getD b undef = x) (hy : tmps.getD c undef = y) : (results fn tmps).run P w = .ok (.tuple #[v, x, y]) w := by
  rw [Array.getD_eq_getD_getElem?] at hp hx hy
  simp [results, h, hp, hx, hy, asAddr, hl]
end
theorem Blk.keepW {w w' : World} {b : Nat} {cs : Array Value} {T : TypeId} (h : Blk w b cs T) {M : List Nat} (hw : Wrote M w w') (hn : b ∉ M) : Blk w' b cs T := h.wrote hw hn
theorem below_wrote {a w w' : World} (h : Below a.heap.size a w) {M : List Nat} (hw : Wrote M w w') (hM : ∀ x ∈ M, a.heap.size ≤ x) : Below a.heap.size a w' :=
  h.trans (hw.below h.size hM)
section
variable {P : Program} {ops : Array Oper} {KQ : Act → World → Prop} {facts : List Fact} {taken : List Nat} {a : Act} {w : World}
/-- 'append(a, b...)' that touches no memory. -/
theorem appQ (i : Nat) {oi : Oper} (hi : ops[i]? = some oi) (hB : takeB ops (facts.map (·.1)) taken i = true) (hw : Region.wanted oi (yielded ops a.tmps) = true) {s x : Operand} {tys : Array TypeId}
    (hop : oi.op = .call { callee := .builtin .append, args := #[s, x], argTypes := tys }) {u y : Value} (hs : a.eval s = u) (hx : a.eval x = y) (v : Value) (hr : ∀ w', (Builtin.append_ tys oi.type #[u, y]).run P w' = .ok v w')
    (h : atR P ops KQ facts (i :: taken) (a.put oi.dst v) w) : atR P ops KQ facts taken a w := by
  refine readyR i hi hB v (.inl ⟨hw, fun w' hu => ?_⟩) h
  simp only [execOp, hop, resolve, invoke, builtin, Sem.run_bind, Sem.run_pure, Result.andThen_ok, List.map_toArray, List.map_cons, List.map_nil, hs, hx, hr]
end
end Go.Proofs.YtoinabapaeebfaaGreatDoor
