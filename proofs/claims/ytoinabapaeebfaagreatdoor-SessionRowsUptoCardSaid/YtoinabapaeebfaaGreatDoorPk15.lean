/- Parts of the proof of SessionRows: contracts of functions that it reaches, and plain lemmas. No condition of their own. -/
import Derived.Test.YtoinabapaeebfaaGreatDoorPk14
import Derived.Test.YtoinabapaeebfaaGreatDoorPk05
import Derived.Test.YtoinabapaeebfaaGreatDoorPk12
import Derived.Deep.MidRow
import Derived.Test.YtoinabapaeebfaaGreatDoorPk06
import Derived.Laws.Runes
import Derived.Laws.RangeAny
import Derived.Lib.OthersKept
import Derived.Deep.LoopGhost
import Derived.RegionTactic
import Derived.Deep.QuietTactic
import Derived.BigQuiet
set_option linter.unusedSimpArgs false
set_option linter.unusedVariables false
set_option maxRecDepth 100000
set_option maxHeartbeats 8000000
namespace Go.Proofs.YtoinabapaeebfaaGreatDoor
open Go.RowKit Go.Shelf
section
theorem Tryz.eI32 : ElemT Tryz.prog 200 21 (.int .i32 0) 1 4 := ⟨Tryz.underlying200, by kernel_rfl, rfl⟩
def runesI (s : List UInt8) : List Int := (runesL s 0).1.map fun (r : Nat) => (r : Int)
theorem runesL_len (s : List UInt8) (p : Nat) : (runesL s p).1.length <= s.length := by
 have key : ∀ f (s : List UInt8) p, (runesF f s p).1.length <= f := by
  intro f
  induction f with
  | zero => intros; simp [runesF]
  | succ f ih =>
   intro s p
   unfold runesF
   split
   ·simp
   ·split
    ·simp
    ·have := ih (s.drop (firstF s).2) (p + (firstF s).2)
     simp only [List.length_cons]
     omega
 exact key _ _ _
theorem ChainU.len {s : List UInt8} {p : Nat} {pre : List (Nat × Nat)} {s' : List UInt8} {p' : Nat} (h : ChainU s p pre s' p') : pre.length <= s.length := by
 have h1 := h.runes
 have h2 := runesL_len s p
 rw [h1] at h2
 simp at h2
 omega
theorem RuneNx.len {s : List UInt8} {pre : List (Nat × Nat)} {x : Nat × Nat} {W : World} (h : RuneNx s pre x W) : pre.length <= s.length := by
 obtain ⟨s', p', hch, _⟩ := h
 exact hch.len
theorem ns_snoc (k : IntKind) (l : List Int) (x : Int) : ns k l ++ [.int k x] = ns k (l ++ [x]) := by simp [ns]
def RunesR (s : List UInt8) (w : World) (e : Ending) (w' : World) : Prop :=
 Below w.heap.size w w' /\ ((wrongU s = -1 /\ ∃ v, e = .returned (.tuple #[v, .int .i64 (-1)]) /\ w'.ownsRow w.heap.size 21 1 v (runesI s).length (ns .i32 (runesI s))) \/
  (0 <= wrongU s /\ e = .returned (.tuple #[.slice none 0 0, .int .i64 (wrongU s)])))
theorem ref_Runes (s : List UInt8) (w : World) (hs : s.length <= 1000000) :
  Calls Tryz.prog 120 #[.string ⟨s.toArray⟩] w (RunesR s w) := by
 have hsz : ByteArray.size ⟨s.toArray⟩ = s.length := by simp [ByteArray.size]
 go_enter Tryz.func120, Tryz.ntmps120
 go_wp2
 go_loopw [4, 5, 6, 7] (fun v at_ _ _ wr => ∃ (pre : List (Nat × Nat)) (s' : List UInt8) (p' : Nat), at_ = .int .i64 p' /\ p' <= s.length /\ pre.length <= s.length /\ Below w.heap.size w wr /\ ChainU s 0 pre s' p' /\ Hid (s' = s.drop p') /\ wr.ownsRow w.heap.size 21 1 v pre.length (ns .i32 (pre.map fun x => (x.2 : Int))))
  (fun _ at_ _ _ _ => s.length - (intOf at_).toNat)
 case atStart => exact ⟨[], s, 0, rfl, Nat.zero_le _, Nat.zero_le _, Below.refl _ _, ⟨rfl, rfl⟩, rfl, World.ownsRow_nil _ _ _ _⟩
 case round =>
  obtain ⟨pre, s', p', rfl, hp, hpl, hbel, hch, hs', hown⟩ := hrel
  rcases Nat.lt_or_ge p' s.length with hlt | hge
  ·have hcut := fun W => str_from s p' hp W
   have hl' : s'.length = s.length - p' := by rw [hs'.out]; simp
   have HC := hid (ref_First s' wr (by omega))
   rw [<- hs'.out] at hcut
   have hle := firstF_le s'
   have hbd : badR s' p' = (decide ((firstF s').2 = 0) || decide (65535 < p' + (firstF s').2)) := rfl
   have hne : s' ≠ [] := by intro h; rw [h] at hl'; simp at hl'; omega
   have HSN := hid (fun h => hch.snoc hne h)
   have HBAD := hid (fun (h : badR s' p' = true) => show wrongU s = (p' : Int) from by unfold wrongU; rw [hch.runes, runesL_bad s' p' hne h])
   generalize hq1 : (firstF s').1 = r at *
   generalize hq2 : (firstF s').2 = n at *
   rcases (show n = 0 \/ (0 < n /\ 65535 < p' + n) \/ (0 < n /\ p' + n <= 65535) by omega) with rfl | ⟨hn, hn2⟩ | ⟨hn, hn2⟩
   ·have HW := hid (HBAD.out (by simp [hbd]))
    go_wp2_with fail
    refine HC.out.mono ?_
    rintro e w2 ⟨rfl, hb2⟩
    go_wp2
    go_ret2
    exact ⟨hbel.trans (hb2.mono hbel.size), .inr ⟨by rw [HW.out]; omega, by rw [HW.out]; rfl⟩⟩
   ·have e1 : ((n : Int) == 0) = false := by simp; omega
    have HW := hid (HBAD.out (by rw [hbd]; simp; omega))
    go_wp2_with fail
    refine HC.out.mono ?_
    rintro e w2 ⟨rfl, hb2⟩
    go_wp2
    go_ret2
    exact ⟨hbel.trans (hb2.mono hbel.size), .inr ⟨by rw [HW.out]; omega, by rw [HW.out]; rfl⟩⟩
   ·have e1 : ((n : Int) == 0) = false := by simp; omega
    have hbt : badR s' p' = false := by rw [hbd]; simp; omega
    go_wp2_with fail
    refine HC.out.mono ?_
    rintro e w2 ⟨rfl, hb2⟩
    have hbel2 := hbel.trans (hb2.mono hbel.size)
    have hown2 := ownsRow_below hown hb2
    have hsz2 := hbel2.size
    have hpl2 : pre.length + 1 <= s.length := by have := (HSN.out hbt).len; simpa using this
    clear hown;obtain ⟨va, vc, rfl, -⟩ := RowAt.of_own hown2
    go_wp2_with (at_builtin; refine append_one rfl _ _ rfl Tryz.eI32 w.heap.size _ pre.length _ rfl hown2 (.int .i32 r) rfl rfl (by omega) (by omega) (by omega) ?_; intro v' w' how' hg'; obtain ⟨a', c', rfl, -⟩ := RowAt.of_own how')
    go_roundw
    case rel =>
     refine ⟨pre ++ [(p', r)], s'.drop n, p' + n, by go_num, by omega, by simpa using hpl2, hbel2.grown hg' hbel2.size (fun k e => (hown2.lt k e).1), HSN.out hbt, ?_, ?_⟩
     ·show s'.drop n = s.drop (p' + n)
      rw [hs'.out, List.drop_drop]
     ·rw [List.length_append, List.map_append]
      rw [ns_snoc] at how'
      exact how'
    case measure => simp [intOf]; omega
  ·obtain rfl : p' = s.length := by omega
   have hnil : s' = [] := by rw [hs'.out]; simp
   subst hnil
   have hw : wrongU s = -1 /\ runesI s = pre.map fun x => (x.2 : Int) := by
    unfold wrongU runesI
    rw [hch.runes]
    simp [runesL_nil]
   have HW := hid hw;clear hw;obtain ⟨va, vc, rfl, -⟩ := RowAt.of_own hown
   go_wp2
   refine bodyPost_ret (v := .tuple #[.slice va pre.length vc, .int .i64 (-1)]) (by simp [results, Tryz.results120, go_sem]) rfl ⟨hbel, .inl ⟨HW.out.1, _, rfl, ?_⟩⟩
   rw [HW.out.2, List.length_map]
   exact hown
end
section
def anewP (r : RowV) : List PackV := if r.stage = 2 then [r.pub true] else if r.stage = 3 then [pubrel r.id] else []
def OS.again (s : OS) : SS := ⟨s, s.l.flatMap anewP, []⟩
theorem anew_len (l : List RowV) : (l.flatMap anewP).length <= l.length := by
 induction l with
 | nil => simp
 | cons r l ih =>
  rw [List.flatMap_cons, List.length_append, List.length_cons]
  have : (anewP r).length <= 1 := by unfold anewP; split <;> (try split) <;> simp
  omega
theorem anew_take (l : List RowV) (k : Nat) (r : RowV) (h : l[k]? = some r) : (l.take (k + 1)).flatMap anewP = (l.take k).flatMap anewP ++ anewP r := by
 rw [List.take_add_one, h]
 simp
theorem out_Anew {w : World} {B : Nat} {L : Lay} {s : OS} (h : OB w B L s [] []) (hn : L.vp = .slice none 0 0 /\ L.vc = .slice none 0 0) :
  Calls Tryz.prog 48 #[.pointer (some ⟨L.p, 0, none⟩)] w fun e w' => ∃ vp vc L', e = .returned (.tuple #[.agg #[vp, vc], .int .i64 0]) /\
   DidAt w w' L L' (s.again.all.fin s.seq s.id).s vp vc (s.again.all.fin s.seq s.id).ps (s.again.all.fin s.seq s.id).cs := by
 obtain ⟨X, hX⟩ : ∃ X, s.again.all = X := ⟨_, rfl⟩
 have hroom : s.l.length <= 1000 := by have := h.ok.room; omega
 have hXl := all_len s.again hroom
 have hXs := all_same s.again
 rw [hX] at hXl hXs ⊢
 have hal := anew_len s.l
 obtain ⟨Xs, Xp, Xc⟩ := X
 obtain ⟨xcl, xwin, xroom, xseq, xid, xl⟩ := Xs
 obtain ⟨client, window, room, seq, id, l⟩ := s
 obtain ⟨p, ib, sb, vl, vp, vc, rb, W⟩ := L
 dsimp only [OS.again] at hn hXl hXs hal hroom hX ⊢
 obtain ⟨rfl, rfl⟩ := hn
 have ex1 : xcl = client := hXs.1
 have ex2 : xseq = seq := hXs.2
 subst ex1 ex2;simp only [List.length_nil, Nat.zero_add] at hXl
 clear hXs;replace h := OB.rebase (L := ⟨p, ib, sb, vl, .slice none 0 0, .slice none 0 0, rb, W⟩) h (Nat.le_refl _)
 have CN := hid fun (w1 : World) (hb : Below w.heap.size w w1) => out_none (h.below hb)
 have CS := hid fun (w1 : World) (hb : Below w.heap.size w w1) => out_Session (h.below hb)
 dsimp only [OS.session, RowV.vals] at CS
 have hX := hid hX;have hp : p < w.heap.size := h.box.lt
 have hfo0 : ∀ x ∈ (Lay.foot ⟨p, ib, sb, vl, .slice none 0 0, .slice none 0 0, rb, W⟩), x < w.heap.size := h.lt
 go_enter Tryz.func48, Tryz.ntmps48
 go_wp2_with fail
 refine (CN.out _ ((Below.refl _ w).alloc (Nat.le_refl _) _)).mono ?_
 rintro e w1 ⟨rfl, rfl⟩
 go_wp2_with fail
 refine (CS.out _ ((Below.refl _ w).alloc (Nat.le_refl _) _)).mono ?_
 rintro e w3 ⟨rfl, hb3⟩
 have hbw : Below w.heap.size w w3 := ((Below.refl _ w).alloc (Nat.le_refl _) _).trans (hb3.mono (by simp))
 have hz3 : w.heap.size + 1 <= w3.heap.size := by have := hb3.size; simp at this; omega
 have hbw2 := hid (hbw.alloc hbw.size (.cells #[.int .i64 1, .string ⟨xcl.toArray⟩, .int .i64 xseq, .int .i64 id, .string ⟨#[]⟩, .string ⟨#[]⟩, .int .i64 0, .bool false, .int .i64 0] 33))
 have bDid := hid (((Blk.new w #[.slice none 0 0, .slice none 0 0] 53).below hb3).alloc (.cells #[.int .i64 1, .string ⟨xcl.toArray⟩, .int .i64 xseq, .int .i64 id, .string ⟨#[]⟩, .string ⟨#[]⟩, .int .i64 0, .bool false, .int .i64 0] 33))
 have bWas := hid (Blk.new w3 #[.int .i64 1, .string ⟨xcl.toArray⟩, .int .i64 xseq, .int .i64 id, .string ⟨#[]⟩, .string ⟨#[]⟩, .int .i64 0, .bool false, .int .i64 0] 33)
 have hO3 := hid (h.below hbw2.out)
 obtain ⟨al, cl, hvl, -⟩ := own_cell h.rows
 dsimp only at hvl
 subst hvl;have m6 : ∀ o, (w3.alloc o).cell? ⟨p, 6, none⟩ = some (.slice al l.length cl) := fun o => ((h.below hbw).alloc o).box.cell 6
 go_wp2_with fail
 obtain ⟨W3, hW3⟩ : ∃ W3, w3.alloc (.cells #[.int .i64 1, .string ⟨xcl.toArray⟩, .int .i64 xseq, .int .i64 id, .string ⟨#[]⟩, .string ⟨#[]⟩, .int .i64 0, .bool false, .int .i64 0] 33) = W3 := ⟨_, rfl⟩
 have hzW : W3.heap.size = w3.heap.size + 1 := by rw [<- hW3]; simp
 rw [hW3] at hbw2 bDid bWas hO3 ⊢
 clear hW3 m6;go_loopw [17] (fun i wr => ∃ (k : Nat) (v : Value), i = .int .i64 k /\ k <= l.length /\ Hid (OB wr w.heap.size ⟨p, ib, sb, .slice al l.length cl, v, .slice none 0 0, rb, W⟩ ⟨xcl, window, room, xseq, id, l⟩ ((l.take k).flatMap anewP) []) /\ Hid (Stp (Lay.foot ⟨p, ib, sb, .slice al l.length cl, .slice none 0 0, .slice none 0 0, rb, W⟩) (Lay.foot ⟨p, ib, sb, .slice al l.length cl, v, .slice none 0 0, rb, W⟩) W3 wr)) (fun i _ => l.length - (intOf i).toNat)
 case atStart => exact ⟨0, _, rfl, Nat.zero_le _, hO3, hid (Stp.refl _ _)⟩
 case round =>
  obtain ⟨k, v, rfl, hk, hOk, hSk⟩ := hrel
  rcases Nat.lt_or_ge k l.length with hlt | hge
  ·have dk : decide ((k : Int) < (l.length : Int)) = true := decide_eq_true (by omega)
   obtain ⟨r, hr⟩ : ∃ r, l[k]? = some r := ⟨_, List.getElem?_eq_getElem hlt⟩
   obtain ⟨b, g, cap, hb, A⟩ := hOk.out.atRow k r hr
   have hvA := A.vl
   dsimp only at hvA
   cases hvA
   have ka := A.arr
   have kl := A.le
   have hrow := hid A.row;have hnk := hid (anew_take l k r hr)
   have c8 : wr.cell? ⟨b, 8, none⟩ = some (.int .i64 r.stage) := A.row.cell 8
   have c3 : wr.cell? ⟨b, 3, none⟩ = some (.int .i64 r.id) := A.row.cell 3
   have hlk : ((l.take k).flatMap anewP).length <= 1000 := by have h1 := anew_len (l.take k); have h2 : (l.take k).length <= l.length := (by rw [List.length_take]; exact Nat.min_le_right _ _); omega
   clear A;by_cases h2 : r.stage = 2
   ·have e2 : (r.stage == 2) = true := by simpa using h2
    have han : anewP r = [r.pub true] := by unfold anewP; rw [if_pos h2]
    rw [h2] at c8
    go_wp2_with fail
    refine (out_publish b r true _ hrow.out).mono ?_
    rintro e w5 ⟨rfl, hb5⟩
    go_wp2_with (refine wpList_plain rfl fun _ hK => wp_slice_one _ rfl ePack (by decide) (by decide) _ rfl rfl (hK _ _ ?_))
    refine (out_says ((hOk.out.below hb5).alloc _) (r.pub true) w5.heap.size (Blk.new _ _ _) (by omega)).mono ?_
    rintro e w6 ⟨rfl, v6, hO6, hst6⟩
    have hO6 := hid hO6;go_wp2
    go_roundw
    case rel => exact ⟨k + 1, v6, by go_num, by omega, by rw [hnk.out, han]; exact hO6, hid (hSk.out.trans ((Stp.below hb5).trans ((Stp.below ((Below.refl _ _).alloc (Nat.le_refl _) _)).trans hst6)))⟩
    case measure => simp [intOf]; omega
   ·have e2 : (r.stage == 2) = false := by simpa using h2
    by_cases h3 : r.stage = 3
    ·have han : anewP r = [pubrel r.id] := by unfold anewP; rw [if_neg h2, if_pos h3]
     rw [h3] at c8
     go_wp2_with fail
     refine (out_says (hOk.out.alloc _) (pubrel r.id) wr.heap.size (Blk.new_at _ _ _ _ rfl) (by omega)).mono ?_
     rintro e w6 ⟨rfl, v6, hO6, hst6⟩
     have hO6 := hid hO6;go_wp2
     go_roundw
     case rel => exact ⟨k + 1, v6, by go_num, by omega, by rw [hnk.out, han]; exact hO6, hid (hSk.out.trans ((Stp.below ((Below.refl _ _).alloc (Nat.le_refl _) _)).trans hst6))⟩
     case measure => simp [intOf]; omega
    ·have e3 : (r.stage == 3) = false := by simpa using h3
     have han : anewP r = [] := by unfold anewP; rw [if_neg h2, if_neg h3]
     go_wp2
     go_roundw
     case rel => exact ⟨k + 1, v, by go_num, by omega, by rw [hnk.out, han, List.append_nil]; exact hOk, hSk⟩
     case measure => simp [intOf]; omega
  ·obtain rfl : k = l.length := by omega
   have dk : decide ((l.length : Int) < (l.length : Int)) = false := by simp
   rw [List.take_length] at hOk
   have bDidw := hid (bDid.out.wrote hSk.out.wrote (fun hx => by have := hfo0 _ hx; omega))
   have bWasw := hid (bWas.out.wrote hSk.out.wrote (fun hx => by have := hfo0 _ hx; omega))
   have hnW := hSk.out.not (x := w3.heap.size) (fun hx => by have := hfo0 _ hx; omega) (by omega)
   have hnD := hSk.out.not (x := w.heap.size) (fun hx => by have := hfo0 _ hx; omega) (by omega)
   have hS0 := (Stp.below (F := Lay.foot ⟨p, ib, sb, .slice al l.length cl, .slice none 0 0, .slice none 0 0, rb, W⟩) hbw2.out).trans hSk.out
   have SEND := hid fun (W' : World) (hW : W' = wr) => by
    subst hW;have h1 := out_send (x0 := ⟨⟨xcl, window, room, xseq, id, l⟩, l.flatMap anewP, []⟩) hOk.out (by show (l.flatMap anewP).length <= 1000; omega) (by simp)
    rw [hX.out] at h1
    exact h1
   dsimp only at SEND
   go_wp2_with fail
   refine (SEND.out _ rfl).mono ?_
   rintro e w4 ⟨rfl, v4, u4, V4, hO4, hst4⟩
   have hfo : ∀ x ∈ (Lay.foot ⟨p, ib, sb, .slice al l.length cl, .slice none 0 0, .slice none 0 0, rb, W⟩), x < w.heap.size := h.lt
   have hnw : w3.heap.size ∉ (Lay.foot ⟨p,ib,sb,.slice al l.length cl,v,.slice none 0 0,rb,W⟩) := hnW
   have hnd : w.heap.size ∉ (Lay.foot ⟨p,ib,sb,.slice al l.length cl,v,.slice none 0 0,rb,W⟩) := hnD
   have hWas4 := hid (bWasw.out.wrote hst4.wrote hnw)
   have hDid4 := hid (bDidw.out.wrote hst4.wrote hnd)
   have hO4 := hid hO4;have s0 : w4.cell? ⟨w3.heap.size, 0, none⟩ = some (.int .i64 1) := hWas4.out.cell 0
   have s1 : w4.cell? ⟨w3.heap.size, 1, none⟩ = some (.string ⟨xcl.toArray⟩) := hWas4.out.cell 1
   have s2 : w4.cell? ⟨w3.heap.size, 2, none⟩ = some (.int .i64 xseq) := hWas4.out.cell 2
   have s3 : w4.cell? ⟨w3.heap.size, 3, none⟩ = some (.int .i64 id) := hWas4.out.cell 3
   have s4 : w4.cell? ⟨w3.heap.size, 4, none⟩ = some (.string ⟨#[]⟩) := hWas4.out.cell 4
   have s5 : w4.cell? ⟨w3.heap.size, 5, none⟩ = some (.string ⟨#[]⟩) := hWas4.out.cell 5
   have s6 : w4.cell? ⟨w3.heap.size, 6, none⟩ = some (.int .i64 0) := hWas4.out.cell 6
   have s7 : w4.cell? ⟨w3.heap.size, 7, none⟩ = some (.bool false) := hWas4.out.cell 7
   have s8 : w4.cell? ⟨w3.heap.size, 8, none⟩ = some (.int .i64 0) := hWas4.out.cell 8
   go_wp2_with fail
   refine (out_done hO4.out xseq id (by (try dsimp only); omega)).mono ?_
   rintro e w7 ⟨vp, vc, cs', rfl, hcs, hob, hpk, hch, hst7⟩
   have hfin : (SS.fin ⟨⟨xcl, xwin, xroom, xseq, xid, xl⟩, Xp, Xc⟩ xseq id) = ⟨⟨xcl, xwin, xroom, xseq, xid, xl⟩, Xp, cs'⟩ := by rw [hcs]; rfl
   replace hfin := hid hfin;obtain ⟨ap, cp, rfl⟩ := own_slice hpk
   obtain ⟨ac, cc, rfl⟩ := own_slice hch
   have hst67 := hst4.trans hst7
   have hnd4 := hst4.not hnd (bDidw.out.lt)
   have hDid7 := hDid4.out.wrote hst7.wrote hnd4
   have y0 : w7.cell? ⟨w.heap.size, 0, none⟩ = some (.slice none 0 0) := hDid7.cell 0
   have y1 : w7.cell? ⟨w.heap.size, 1, none⟩ = some (.slice none 0 0) := hDid7.cell 1
   have z0 := hDid7.frozen 0
   have z1 := hDid7.frozen 1
   have HPK := hid hpk;have HCH := hid hch;clear hpk hch hcs;go_wp2
   refine bodyPost_gen (fun W' => W'.cell? ⟨w.heap.size, 0, none⟩ = some (.slice ap Xp.length cp) /\ W'.cell? ⟨w.heap.size, 1, none⟩ = some (.slice ac cs'.length cc) /\ Wrote [w.heap.size] w7 W') ⟨((hDid7.set 0 _).set 1 _).cell 0, ((hDid7.set 0 _).set 1 _).cell 1, (Wrote.setCell (M := [w.heap.size]) w7 ⟨w.heap.size, 0, none⟩ (by simp) _).trans (Wrote.setCell _ ⟨w.heap.size, 1, none⟩ (by simp) _)⟩ ?_
   rintro W' ⟨e0, e1, hW⟩
   refine bodyPost_ret (v := .tuple #[.agg #[.slice ap Xp.length cp, .slice ac cs'.length cc], .int .i64 0]) (by simp [results, Tryz.results48, go_sem, e0, e1]) rfl ?_
   have hS := (hS0.trans hst67).fresh hW (by simp)
   have hnf7 := hst7.not hnd4 hDid4.out.lt
   have hg1 : 1 ∉ [w.heap.size] := by have := h.tz.lt; simp only [List.mem_singleton]; omega
   rw [hfin.out]
   refine ⟨_, _, _, rfl, ((hob 0 (Nat.zero_le _)).out hW (by simpa using hnf7) hg1).rebase (Nat.le_refl _), ⟨rfl, rfl⟩, rfl, hS, not_own HPK.out hW (fun x hx hb => ?_), not_own HCH.out hW (fun x hx hb => ?_)⟩
   ·simp at hx; subst hx
    exact block_not_row hDid7 (by decide) HPK.out (mem_blk.1 hb).symm
   ·simp at hx; subst hx
    exact block_not_row hDid7 (by decide) HCH.out (mem_blk.1 hb).symm
end
section
def RowV.cl (r : RowV) : List Value := r.vals.toList
theorem eRow : ElemT Tryz.prog 34 33 (.agg (RowV.vals ⟨0, [], 0, 0, [], [], 0, false, 0⟩)) 9 96 := ⟨Tryz.underlying34, by kernel_rfl, by kernel_rfl⟩
theorem RowV.cllen (r : RowV) : r.cl.length = 9 := rfl
theorem RowV.one (r : RowV) : ∀ u ∈ r.cl, u.oneCell' = true := by simp [RowV.cl, RowV.vals, Value.oneCell']
def RowsAt (w : World) (base : Nat) (v : Value) (l : List RowV) : Prop := w.ownsRow base 33 9 v l.length (l.flatMap RowV.cl)
theorem Blk.range {w : World} {b : Nat} {cs : Array Value} {T : TypeId} (h : Blk w b cs T) : w.rangeAt b 0 cs.toList := fun j v hj => by
 rw [Nat.zero_add, h.cell j]
 simpa using hj
theorem out_Rows {w : World} {B : Nat} {L : Lay} {s : OS} {ps : List PackV} {cs : List ChangeV} (h : OB w B L s ps cs) :
  Calls Tryz.prog 16 #[.pointer (some ⟨L.p, 0, none⟩)] w fun e w' => ∃ v, e = .returned v /\ RowsAt w' w.heap.size v s.l /\ Below w.heap.size w w' := by
 have CN := hid (out_none h)
 obtain ⟨al, cl, hvl, -⟩ := own_cell h.rows
 have k6 : w.cell? ⟨L.p, 6, none⟩ = some (.slice al s.l.length cl) := (h.box.cell 6).trans (by simp [boxCells, hvl])
 have hroom : s.l.length <= 1000 := by have := h.ok.room; omega
 have H := hid h;go_enter Tryz.func16, Tryz.ntmps16
 go_wp2_with (go_at_call 58; refine CN.out.mono ?_; rintro e w1 ⟨rfl, rfl⟩)
 go_loopw [3, 13] (fun v' i wr => ∃ (k : Nat) (v : Value), v = v' /\ i = .int .i64 k /\ k <= s.l.length /\ Hid (wr.ownsRow w.heap.size 33 9 v k ((s.l.take k).flatMap RowV.cl)) /\ Hid (Below w.heap.size w wr)) (fun _ i _ => s.l.length - (intOf i).toNat)
 case atStart => exact ⟨0, _, rfl, rfl, Nat.zero_le _, hid (World.ownsRow_nil _ _ _ _), hid (Below.refl _ _)⟩
 case round =>
  obtain ⟨k, v, rfl, rfl, hk, hown, hbr⟩ := hrel
  rcases Nat.lt_or_ge k s.l.length with hlt | hge
  ·have dk : decide ((k : Int) < (s.l.length : Int)) = true := decide_eq_true (by omega)
   obtain ⟨r, hr⟩ : ∃ r, s.l[k]? = some r := ⟨_, List.getElem?_eq_getElem hlt⟩
   obtain ⟨b, g, cap, hb, A⟩ := (H.out.below hbr.out).atRow k r hr
   have hvA := A.vl
   rw [hvl] at hvA
   cases hvA
   have ka := A.arr
   have kl := A.le
   have hrow := hid A.row;have hnk := hid (show (s.l.take (k + 1)).flatMap RowV.cl = (s.l.take k).flatMap RowV.cl ++ r.cl by rw [List.take_add_one, hr]; simp)
   clear A hr
   go_wp2_with (first
    | (refine wpList_load_mid rfl 33 _ rfl b 0 rfl r.cl _ hrow.out.range Tryz.underlying33 rfl (by kernel_rfl) ?_)
    | (refine wpList_plain rfl fun _ hK => wp_slice_one _ rfl eRow (by decide) (by decide) (.agg r.cl.toArray) rfl rfl (hK _ _ ?_))
    | (at_builtin; (refine append_grp rfl _ _ rfl eRow (by decide) w.heap.size v k _ rfl (hown.out.alloc _) wr.heap.size r.cl 33 rfl (Blk.new _ _ _) rfl r.one (by omega) (by omega) (by have := hbr.out.size; simp; omega) ?_); intro v' w1 r1 g1 n1))
   have r1 := hid r1;have g1 := hid g1;go_roundw
   case rel =>
    exact ⟨k + 1, _, rfl, by go_num, by omega, by rw [hnk.out]; exact r1, hid ((hbr.out.alloc hbr.out.size _).grown g1.out (by have := hbr.out.size; simp; omega) (fun x hx => (hown.out.lt x hx).1))⟩
   case measure => simp [intOf]; omega
  ·obtain rfl : k = s.l.length := by omega
   have dk : decide ((s.l.length : Int) < (s.l.length : Int)) = false := by simp
   rw [List.take_length] at hown
   go_wp2
   go_ret
   exact ⟨_, rfl, hown.out, hbr.out⟩
end
section
theorem below_drewN' (w : World) (n : Nat) : Below w.heap.size w (w.drewN n) := by
 induction n with
 | zero => exact Below.refl _ _
 | succ n ih => exact ih.drew
theorem utf8_ValidRune (r : Int) (w : World) :
  Calls Tryz.prog 219 #[.int .i32 r] w fun e w' => (e = .returned (.bool (Utf8.valid r))) /\ w = w' := by
 by_cases h1 : 0 <= r
 ·by_cases h2 : r < 55296
  ·have hv : Utf8.valid r = true := by unfold Utf8.valid; simp; omega
   go_enter Tryz.func219, Tryz.ntmps219
   go_wp2
   go_ret
   simp [hv]
  ·have d2 : decide (r < 55296) = false := decide_eq_false h2
   by_cases h3 : 57343 < r
   ·by_cases h4 : r <= 1114111
    ·have hv : Utf8.valid r = true := by unfold Utf8.valid; simp; omega
     go_enter Tryz.func219, Tryz.ntmps219
     go_wp2
     go_ret
     simp [hv]
    ·have d4 : decide (r <= 1114111) = false := decide_eq_false h4
     have hv : Utf8.valid r = false := by unfold Utf8.valid; simp; omega
     go_enter Tryz.func219, Tryz.ntmps219
     go_wp2
     go_ret
     simp [hv]
   ·have d3 : decide (57343 < r) = false := decide_eq_false h3
    have hv : Utf8.valid r = false := by unfold Utf8.valid; simp; omega
    go_enter Tryz.func219, Tryz.ntmps219
    go_wp2
    go_ret
    simp [hv]
 ·have d1 : decide (0 <= r) = false := decide_eq_false h1
  have d3 : decide (57343 < r) = false := decide_eq_false (by omega)
  have hv : Utf8.valid r = false := by unfold Utf8.valid; simp; omega
  go_enter Tryz.func219, Tryz.ntmps219
  go_wp2
  go_ret
  simp [hv]
theorem idxRune_high (r : Int) (w : World) (h128 : 128 <= r) :
  Calls Tryz.prog 204 #[.string ⟨#[43, 35]⟩, .int .i32 r] w fun e w' => e = .returned (.int .i64 (-1)) /\ Below w.heap.size w w' := by
 have d1 : decide (r < 128) = false := decide_eq_false (by omega)
 by_cases he : r = 65533
 ·subst he
  go_enter Tryz.func204, Tryz.ntmps204
  go_wp2
  go_loopg [5, 6] 2 (fun g _ _ wx => ∃ i : Nat, i + g = 2 /\ wx = w.iter ⟨#[43, 35]⟩ i)
  case atStart => exact ⟨0, by omega, rfl⟩
  case round =>
   obtain ⟨i, hig, rfl⟩ := hrel
   cases gk with
   | zero =>
    obtain rfl : i = 2 := by omega
    have hnx := fun ty => run_next_end (P := Tryz.prog) w ⟨#[43, 35]⟩ 2 ty (by decide)
    go_wp2
    go_ret
    exact ⟨rfl, (Below.refl _ _).alloc (Nat.le_refl _) _⟩
   | succ g =>
    have hi : i = 0 \/ i = 1 := by omega
    rcases hi with rfl | rfl
    ·have hnx := fun ty => run_next_ascii (P := Tryz.prog) w ⟨#[43, 35]⟩ 0 ty (by decide) (by decide)
     go_wp2
     go_roundg g
     case measure => omega
     case rel => exact ⟨1, by omega, rfl⟩
    ·have hnx := fun ty => run_next_ascii (P := Tryz.prog) w ⟨#[43, 35]⟩ 1 ty (by decide) (by decide)
     go_wp2
     go_roundg g
     case measure => omega
     case rel => exact ⟨2, by omega, rfl⟩
 ·have d2 : (r == 65533) = false := by simpa using he
  have CV := hid (utf8_ValidRune r)
  cases hv : Utf8.valid r with
  | false =>
   rw [hv] at CV
   go_enter Tryz.func204, Tryz.ntmps204
   go_wp2_with (go_at_call 219; refine (CV.out _).mono ?_; rintro e w1 ⟨rfl, rfl⟩)
   go_ret
   exact ⟨rfl, Below.refl _ _⟩
  | true =>
   rw [hv] at CV
   obtain ⟨g1, g2, g3⟩ := encode_facts r hv h128
   obtain ⟨E, hE⟩ : ∃ E, Utf8.encode r = E := ⟨_, rfl⟩
   rw [hE] at g1 g2 g3
   have hE := hid hE;by_cases hs2 : E.size = 2
   ·have IB : Hid (∀ (s : ByteArray) (c : Int) (w : World), Calls Tryz.prog 218 #[.string s, .int .u8 c] w fun e w' => e = .returned (.int .i64 (Lib.indexByte s.data.toList c.toNat.toUInt8)) /\ w' = w) := hid fun s c w => Any.strings_IndexByte { Tryz.lays152 with } s c w
    have g4 : ∀ h, 128 <= ((E[1]'h).toNat : Int) := fun h => by
     have := g3 (by omega)
     have e : E.size - 1 = 1 := by omega
     simp only [e] at this
     omega
    obtain ⟨c, hc⟩ : ∃ c : Int, ((E[1]'(by omega)).toNat : Int) = c := ⟨_, rfl⟩
    have g5 : ∀ h, ((E[1]'h).toNat : Int) = c := fun h => hc
    have hcb := g4 (by omega)
    rw [hc] at hcb
    have nb : ∀ h, (⟨#[43, 35]⟩ : ByteArray)[1]'h = 35 := fun _ => rfl
    have n0 : ((35 : Int) != c) = true := by simp; omega
    have nc : ((35 : UInt8).toNat : Int) = 35 := rfl
    have hsz : (E.size : Int) = 2 := by omega
    clear g1 g2 g3 g4 hc;go_enter Tryz.func204, Tryz.ntmps204
    go_wp2_with (go_at_call 219; refine (CV.out _).mono ?_; rintro e w1 ⟨rfl, rfl⟩)
    refine wp_scope_straight ?_
    go_wp2
    go_loopw [9, 10] (fun i f wr => i = .int .i64 1 /\ f = .int .i64 0 /\ wr = w) (fun _ _ _ => 0)
    case atStart => exact ⟨rfl, rfl, rfl⟩
    case round =>
     obtain ⟨rfl, rfl, rfl⟩ := hrel
     go_wp2
     refine wp_scope_straight ?_
     go_wp2
     go_quiet (fail)
     go_wp2
     have hw2 : IntKind.i64.wrap 2 = 2 := by decide
     have hsl : ∀ W : World, (Instr.slice 9 (.string ⟨#[43, 35]⟩) (some (.int .i64 2)) none none).run Tryz.prog W = .ok (.string ⟨#[]⟩) W := fun W => by kernel_rfl
     have hii : Lib.indexByte [] c.toNat.toUInt8 = -1 := rfl
     go_quiet ((refine (IB.out _ _ _).mono fun e w' h => ⟨h.1, _, h.2⟩))
     go_wp2
     rw [Exit.noGoto_ret]
     go_wp2
     rw [Exit.noGoto_ret]
     go_ret
     exact ⟨rfl, below_drewN' _ _⟩
   ·have hge : (2 : Int) < (E.size : Int) := by omega
    have hge4 : (E.size : Int) <= 4 := by omega
    obtain ⟨n, hn⟩ : ∃ n : Int, (E.size : Int) = n := ⟨_, rfl⟩
    rw [hn] at hge hge4
    have d3 : decide (n - 1 < 2) = false := decide_eq_false (by omega)
    have hw : wrap64 (n - 1) = n - 1 := by unfold wrap64; omega
    clear g1 g2 g3;go_enter Tryz.func204, Tryz.ntmps204
    go_wp2_with (go_at_call 219; refine (CV.out _).mono ?_; rintro e w1 ⟨rfl, rfl⟩)
    refine wp_scope_straight ?_
    go_wp2
    go_loopw [9, 10] (fun i f wr => i = .int .i64 (n - 1) /\ f = .int .i64 0 /\ wr = w) (fun _ _ _ => 0)
    case atStart => exact ⟨rfl, rfl, rfl⟩
    case round =>
     obtain ⟨rfl, rfl, rfl⟩ := hrel
     go_wp2
     rw [Exit.noGoto_ret]
     go_ret
     exact ⟨rfl, Below.refl _ _⟩
theorem decode_step (s : ByteArray) (i : Nat) (h : i < s.size) (ha : 128 <= (s[i]'h).toNat) :
  1 <= (Utf8.decode s i).2 /\ i + (Utf8.decode s i).2 <= s.size /\ ∀ j b, i <= j -> j < i + (Utf8.decode s i).2 -> s.data.toList[j]? = some b -> 128 <= b.toNat := by
 have hat : ∀ k b, s.data.toList[i + k]? = some b -> (s.get! (i + k)) = b := fun k b hb => by
  have hlt : i + k < s.size := by rw [Lib.size_eq]; exact (List.getElem?_eq_some_iff.1 hb).1
  have := Lib.data_getElem? s (i + k) hlt
  rw [this] at hb
  simp only [Option.some.injEq] at hb
  rw [<- hb]
  simp [ByteArray.get!, getElem!_pos, hlt]
  rfl
 have cont : ∀ k, (s.get! (i + k)).toNat / 64 = 2 -> 128 <= (s.get! (i + k)).toNat := fun k h => by omega
 have key : ∀ d, (∀ k, 1 <= k -> k < d -> i + k < s.size /\ (s.get! (i + k)).toNat / 64 = 2) -> 1 <= d -> 1 <= d /\ i + d <= s.size /\ ∀ j b, i <= j -> j < i + d -> s.data.toList[j]? = some b -> 128 <= b.toNat := by
  intro d hk hd
  refine ⟨hd, ?_, fun j b h1 h2 hb => ?_⟩
  ·rcases Nat.lt_or_ge 1 d with h1 | h1
   ·have := (hk (d - 1) (by omega) (by omega)).1; omega
   ·omega
  ·obtain ⟨k, rfl⟩ : ∃ k, j = i + k := ⟨j - i, by omega⟩
   rcases Nat.eq_zero_or_pos k with h0 | h0
   ·subst h0
    have := hat 0 b hb
    rw [get_at s i h] at this
    rw [<- this]; exact ha
   ·rw [<- hat k b hb]; exact cont k (hk k h0 (by omega)).2
 have one : 1 <= 1 /\ i + 1 <= s.size /\ ∀ j b, i <= j -> j < i + 1 -> s.data.toList[j]? = some b -> 128 <= b.toNat := key 1 (fun k h1 h2 => by omega) (Nat.le_refl _)
 have hn : ¬ (s[i]'h).toNat < 128 := by omega
 unfold Utf8.decode
 simp only [get_at s i h, hn, if_false]
 split
 ·rename_i hc
  simp only [Bool.and_eq_true, beq_iff_eq, decide_eq_true_eq] at hc
  split
  ·exact key 2 (fun k h1 h2 => by obtain rfl : k = 1 := by omega
                                  exact hc.2) (by omega)
  ·exact one
 ·split
  ·rename_i hc
   simp only [Bool.and_eq_true, beq_iff_eq, decide_eq_true_eq] at hc
   split
   ·exact key 3 (fun k h1 h2 => by
     rcases (by omega : k = 1 \/ k = 2) with rfl | rfl
     ·exact hc.1.2
     ·exact hc.2) (by omega)
   ·exact one
  ·split
   ·rename_i hc
    simp only [Bool.and_eq_true, beq_iff_eq, decide_eq_true_eq] at hc
    split
    ·exact key 4 (fun k h1 h2 => by
      rcases (by omega : k = 1 \/ k = 2 \/ k = 3) with rfl | rfl | rfl
      ·exact hc.1.1.2
      ·exact hc.1.2
      ·exact hc.2) (by omega)
    ·exact one
   ·exact one
theorem noAny_step {s : List UInt8} {i d : Nat} (h : Lib.NoAny s [43, 35] i) (hk : ∀ j b, i <= j -> j < i + d -> s[j]? = some b -> 128 <= b.toNat) : Lib.NoAny s [43, 35] (i + d) := fun j b hj hb => by
 rcases Nat.lt_or_ge j i with h1 | h1
 ·exact h j b h1 hb
 ·have := hk j b h1 hj hb
  have h2 : b ≠ 43 := fun e => by subst e; simp at this
  have h3 : b ≠ 35 := fun e => by subst e; simp at this
  simp [h2, h3]
theorem idxAny_short (s : ByteArray) (w : World) (h8 : s.size <= 8) :
  Calls Tryz.prog 182 #[.string s, .string ⟨#[43, 35]⟩] w fun e w' => e = .returned (.int .i64 (Lib.indexAny s.data.toList [43, 35])) /\ Below w.heap.size w w' := by
 have h8z : decide ((8 : Int) < (s.size : Int)) = false := decide_eq_false (by omega)
 have hsc : Hid (∀ (n : Int) (w : World), Calls Tryz.prog 205 #[.int .i64 n] w fun e w' => e = .returned (.bool (decide (8 < n))) /\ w' = w) := hid fun n w => Any.strings_shouldUseASCIISet { Tryz.lays153 with } n w
 have IR : Hid (∀ (r : Int) (w : World), 0 <= r -> r < 128 -> Calls Tryz.prog 204 #[.string ⟨#[43, 35]⟩, .int .i32 r] w fun e w' => e = .returned (.int .i64 (Lib.indexByte [43, 35] r.toNat.toUInt8)) /\ w' = w) := hid fun r w h0 h1 => Any.strings_IndexRune_ascii { Tryz.lays152 with } _ _ _ h0 h1
 have IH := hid idxRune_high;go_enter Tryz.func182, Tryz.ntmps182
 go_wp2_with (go_at_call 205; refine (hsc.out _ _).mono ?_; rintro e w' ⟨rfl, hw⟩; rw [hw, h8z])
 go_loopg [9, 10] s.size (fun g _ _ wx => ∃ i : Nat, i + g = s.size /\ Below w.heap.size w wx /\ wx.heap[w.heap.size]? = some (.stringIter s i) /\ Lib.NoAny s.data.toList [43, 35] i)
 case atStart => exact ⟨0, by omega, (Below.refl _ _).alloc (Nat.le_refl _) _, World.iter_heap _ _ _, Lib.NoAny.zero _ _⟩
 case round =>
  obtain ⟨i, hig, hbx, hit, hno⟩ := hrel
  have hbx := hid hbx;have hno := hid hno;have hit := hid hit;cases gk with
  | zero =>
   obtain rfl : i = s.size := by omega
   have hnx := fun ty => Lib.run_next_end_at (P := Tryz.prog) wr w.heap.size s s.size ty hit.out (Nat.lt_irrefl _)
   go_wp2
   go_ret
   exact ⟨by rw [Lib.indexAny_none (by rw [<- Lib.size_eq]; exact hno.out)]; rfl, hbx.out⟩
  | succ g =>
   have hi : i < s.size := by omega
   obtain ⟨x, hx⟩ : ∃ x : UInt8, s[i]'hi = x := ⟨_, rfl⟩
   have hxl := hid (show s.data.toList[i]? = some x by rw [<- hx]; exact Lib.data_getElem? s i hi)
   by_cases hx128 : x.toNat < 128
   ·have hnx := fun ty => Lib.run_next_ascii_at (P := Tryz.prog) wr w.heap.size s i ty hit.out hi (by rw [hx]; exact hx128)
    rw [hx] at hnx
    clear hx;have hcon := Lib.contains_iff_indexByte [43, 35] x
    have hback : ((x.toNat : Int)).toNat.toUInt8 = x := by simp
    cases hin : ([43, 35] : List UInt8).contains x with
    | false =>
     rw [hin] at hcon
     have hlt : ¬ ((0 : Int) <= Lib.indexByte [43, 35] x) := of_decide_eq_false hcon.symm
     clear hcon;have hin := hid hin;go_wp2_with (go_at_call 204; refine (IR.out _ _ (by omega) (by omega)).mono ?_; rintro e w' ⟨rfl, hw⟩; rw [hw, hback])
     go_roundg g
     case measure => omega
     case rel => exact ⟨i + 1, by omega, Lib.below_iterAt hbx.out (Nat.le_refl _) _ _, Lib.iterAt_heap _ _ _ _ _ hit.out, hno.out.succ hxl.out hin.out⟩
    | true =>
     rw [hin] at hcon
     have hge : (0 : Int) <= Lib.indexByte [43, 35] x := of_decide_eq_true hcon.symm
     clear hcon;have hin := hid hin;go_wp2_with (go_at_call 204; refine (IR.out _ _ (by omega) (by omega)).mono ?_; rintro e w' ⟨rfl, hw⟩; rw [hw, hback])
     go_ret
     exact ⟨by rw [Lib.indexAny_hit hno.out hxl.out hin.out]; rfl, Lib.below_iterAt hbx.out (Nat.le_refl _) _ _⟩
   ·have hnx := fun ty => Lib.run_next_any_at (P := Tryz.prog) wr w.heap.size s i ty hit.out hi
    obtain ⟨r, d, hd⟩ : ∃ r d, Utf8.decode s i = (r, d) := ⟨_, _, rfl⟩
    have hh := decode_high s i hi (by rw [hx]; omega)
    rw [hd] at hnx hh
    dsimp only at hnx hh
    have hr : (128 : Int) <= (r : Int) := by omega
    obtain ⟨k1, k2, k3⟩ := decode_step s i hi (by rw [hx]; omega)
    rw [hd] at k1 k2 k3
    dsimp only at k1 k2 k3
    have k3 := hid k3;have hd := hid hd;clear hx;go_wp2_with (go_at_call 204; refine (IH.out _ _ (by omega)).mono ?_; rintro e w' ⟨rfl, hw⟩)
    have hlt : w.heap.size < wr.heap.size := (Array.getElem?_eq_some_iff.1 hit.out).1
    have hsz := Lib.iterAt_size wr w.heap.size s (i + d)
    go_roundg (g + 1 - d)
    case measure => omega
    case rel => exact ⟨i + d, by omega, (Lib.below_iterAt hbx.out (Nat.le_refl _) _ _).trans (hw.mono (by omega)), (hw.block _ (by omega)).trans (Lib.iterAt_heap _ _ _ _ _ hit.out), noAny_step hno.out k3⟩
theorem anyOK (s : List UInt8) (hs : s.length < 4294967281) : AnyOK s := fun w => by
 have hsz : ByteArray.size ⟨s.toArray⟩ = s.length := by simp [ByteArray.size]
 have CI : Hid (Calls Tryz.prog 182 #[.string ⟨s.toArray⟩, .string ⟨#[43, 35]⟩] w fun e w' => e = .returned (.int .i64 (Lib.indexAny s [43, 35])) /\ Below w.heap.size w w') := hid <| by
  by_cases h8 : s.length <= 8
  ·exact idxAny_short ⟨s.toArray⟩ w (by omega)
  ·refine (Any.strings_IndexAny_long Tryz.lays153 (zero_of_info (v := .agg (Array.replicate 256 (.bool false))) (n := 256) (by kernel_rfl)).1 (zero_of_info (v := .agg (Array.replicate 256 (.bool false))) (n := 256) (by kernel_rfl)).2 ⟨s.toArray⟩ ⟨#[43, 35]⟩ w (by decide) (by omega) (by omega) (by decide) (fun j b h => ?_)).mono fun e w' ⟨h1, h2⟩ => ⟨h1, ?_⟩
   ·rcases j with _ | _ | j <;> simp at h <;> subst h <;> decide
   ·rw [h2]
    exact ((Below.refl _ _).alloc (Nat.le_refl _) _).alloc (by simp) _
 go_enter Tryz.func119, Tryz.ntmps119
 go_wp2_with (go_at_call 182; refine CI.out.mono ?_; rintro e w' ⟨rfl, hw⟩)
 go_ret
 exact ⟨rfl, hw⟩
end
end Go.Proofs.YtoinabapaeebfaaGreatDoor
