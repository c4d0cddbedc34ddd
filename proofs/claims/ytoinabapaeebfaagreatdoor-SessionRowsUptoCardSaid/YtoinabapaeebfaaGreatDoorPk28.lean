/- Parts of the proof of SessionRows: contracts of functions that it reaches, and plain lemmas. No condition of their own. -/
import Derived.Test.YtoinabapaeebfaaGreatDoorPk27
import Derived.Test.YtoinabapaeebfaaGreatDoorPk23
import Derived.Test.YtoinabapaeebfaaGreatDoorPk19
import Derived.Test.YtoinabapaeebfaaGreatDoorPk07
import Derived.Test.YtoinabapaeebfaaGreatDoorPk08
import Derived.Test.YtoinabapaeebfaaGreatDoorPk05
import Derived.Test.YtoinabapaeebfaaGreatDoorPk16
import Derived.Deep.Cut
set_option linter.unusedSimpArgs false
set_option linter.unusedVariables false
set_option maxRecDepth 100000
set_option maxHeartbeats 8000000
namespace Go.Proofs.YtoinabapaeebfaaGreatDoor
open Go.RowKit Go.Shelf
section
structure XR where
 x : XS
 ps : List PackV
 cs : List ChangeV
def XS.comes (x : XS) (clean : Bool) (keep : Int) (v : Option WillV) (now : Int) : XS :=
 if (0 <= keep /\ keep <= 65535 /\ 0 <= now) /\ (∀ a, v = some a -> a.may = true) then { x with clean := clean, on := true, keep := keep, heard := now, will := v } else x
def XS.goes (x : XS) : XS := { x with on := false, will := none }
def XS.hears (x : XS) (now : Int) : XS := { x with heard := if 0 <= now /\ x.on = true then now else x.heard }
def XS.unwant (x : XS) (f : List UInt8) : XR :=
 if filterR f = true then (match look x.wants f with | some q => ⟨{ x with wants := del x.wants f }, [], [⟨true, x.sub f q⟩]⟩ | none => ⟨x, [], []⟩) else ⟨x, [], []⟩
def XS.give (x : XS) (topic body : List UInt8) (qos : Int) (retain : Bool) : XR :=
 if nameR topic = true /\ (body.length : Int) <= 2000 /\ 0 <= qos /\ qos <= 2 then
  if qos = 0 then ⟨x, if x.on = true then [⟨3, false, retain, 0, topic, body, 0⟩] else [], []⟩
  else if putMay (x.o.row topic body qos retain) = true /\ (x.o.l.length : Int) < x.o.room then
   if x.on = true then ⟨{ x with o := ((x.o.put (x.o.row topic body qos retain)).start.all.fin (x.o.seq + 1) x.o.id).s }, ((x.o.put (x.o.row topic body qos retain)).start.all.fin (x.o.seq + 1) x.o.id).ps,
    ⟨false, x.o.row topic body qos retain⟩ :: ⟨false, (x.o.put (x.o.row topic body qos retain)).session⟩ :: ((x.o.put (x.o.row topic body qos retain)).start.all.fin (x.o.seq + 1) x.o.id).cs⟩
   else ⟨{ x with o := x.o.put (x.o.row topic body qos retain) }, [], [⟨false, x.o.row topic body qos retain⟩, ⟨false, (x.o.put (x.o.row topic body qos retain)).session⟩]⟩
  else ⟨x, [], []⟩
 else ⟨x, [], []⟩
def XS.came (x : XS) (z : Int) : XR :=
 if (1 <= z /\ z <= 65535) /\ z.toNat ∉ x.ids /\ (x.ids.length : Int) < x.most then ⟨{ x with ids := z.toNat :: x.ids }, [], [⟨false, x.inr z⟩]⟩ else ⟨x, [], []⟩
def XS.rel (x : XS) (z : Int) : XR :=
 if 1 <= z /\ z <= 65535 then
  if z.toNat ∈ x.ids then ⟨{ x with ids := x.ids.erase z.toNat }, [⟨7, false, false, 0, [], [], z⟩], [⟨true, x.inr z⟩]⟩ else ⟨x, [⟨7, false, false, 0, [], [], z⟩], []⟩
 else ⟨x, [], []⟩
def XS.hear (x : XS) (k z : Int) : XR := if k = 6 then x.rel z else ⟨{ x with o := (x.o.doHear k z).s }, (x.o.doHear k z).ps, (x.o.doHear k z).cs⟩
def XS.anew (x : XS) : XR := ⟨{ x with o := (x.o.again.all.fin x.o.seq x.o.id).s }, (x.o.again.all.fin x.o.seq x.o.id).ps, (x.o.again.all.fin x.o.seq x.o.id).cs⟩
def ToldX (w w' : World) (S : XLay) (r : XR) (vp vc : Value) : Prop := ∃ S', SDid w w' S S' r.x vp vc r.ps r.cs
theorem ses_On_any {w : World} {B : Nat} {S : XLay} {x : XS} (h : XB w B S x) (clean : Bool) (keep now : Int) (b : Option Nat) (v : Option WillV) (hv : WillAt w b v) (ht : ∀ a, v = some a -> a.topic.length <= 1000000) :
  Calls Tryz.prog 24 #[.pointer (some ⟨S.p, 0, none⟩), .bool clean, .int .i64 keep, ptrO b, .int .i64 now] w fun e w' => ∃ no wv, e = .returned (.int .i64 no) /\ XB w' B { S with wv := wv } (x.comes clean keep v now) /\ Wrote S.foot w w' /\ (∀ c ∈ wv.toList, c ∈ S.wv.toList \/ w.heap.size <= c) := by
 have same : ∀ (e : Ending) (w' : World) (n : Int), Below w.heap.size w w' -> x.comes clean keep v now = x -> ∃ no wv, (Ending.returned (.int .i64 n)) = .returned (.int .i64 no) /\ XB w' B { S with wv := wv } (x.comes clean keep v now) /\ Wrote S.foot w w' /\ (∀ c ∈ wv.toList, c ∈ S.wv.toList \/ w.heap.size <= c) := fun e w' n hb he => by
  rw [he]
  exact ⟨n, S.wv, rfl, h.below hb, Wrote.of_below hb, fun c hc => .inl hc⟩
 by_cases hn : 0 <= keep /\ keep <= 65535 /\ 0 <= now
 ·cases v with
  | none =>
   cases b with
   | some b => exact hv.elim
   | none =>
    refine (ses_On_nil h clean keep now hn).mono ?_
    rintro e w' ⟨rfl, hx, hs⟩
    refine ⟨0, none, rfl, ?_, hs.wrote, by simp⟩
    unfold XS.comes
    rw [if_pos ⟨hn, fun a ha => by cases ha⟩]
    exact hx
  | some v =>
   cases b with
   | none => exact hv.elim
   | some b =>
    cases hm : v.may with
    | true =>
     refine (ses_On_will h clean keep now b v hv hn (ht v rfl) hm).mono ?_
     rintro e w' ⟨wb, rfl, hwb, hx, hs⟩
     refine ⟨0, some wb, rfl, ?_, hs, by simp; exact .inr hwb⟩
     unfold XS.comes
     rw [if_pos ⟨hn, fun a ha => by cases ha; exact hm⟩]
     exact hx
    | false =>
     refine (ses_On_bad h clean keep now b v hv hn (ht v rfl) hm).mono ?_
     rintro e w' ⟨rfl, hb⟩
     refine same (.returned (.int .i64 2)) w' 2 hb ?_
     unfold XS.comes
     rw [if_neg fun hh => by have := hh.2 v rfl; rw [hm] at this; cases this]
 ·refine (ses_On_refused h clean keep now (b.map fun b => ⟨b, 0, none⟩) hn).mono ?_
  rintro e w' ⟨rfl, rfl⟩
  refine same (.returned (.int .i64 2)) w 2 (Below.refl _ _) ?_
  unfold XS.comes
  rw [if_neg fun hh => hn hh.1]
theorem ses_Want_any {w : World} {B : Nat} {S : XLay} {x : XS} (h : XB w B S x) (f : List UInt8) (q : Int) (hf : f.length <= 1000000) :
  Calls Tryz.prog 29 #[.pointer (some ⟨S.p, 0, none⟩), .string ⟨f.toArray⟩, .int .i64 q] w fun e w' => ∃ vp vc no, e = .returned (.tuple #[.agg #[vp, vc], .int .i64 no]) /\ ToldX w w' S ⟨x.want f q, [], x.wantC f q⟩ vp vc := by
 have none' : ∀ (w' : World), Below w.heap.size w w' -> (x.wantE f q ≠ 0 \/ look x.wants f = some q) -> ToldX w w' S ⟨x.want f q, [], x.wantC f q⟩ (.slice none 0 0) (.slice none 0 0) := fun w' hb hh => by
  have hn : ¬ (x.wantE f q = 0 /\ look x.wants f ≠ some q) := fun h2 => hh.elim (fun h3 => h3 h2.1) (fun h3 => h2.2 h3)
  unfold XS.want XS.wantC
  rw [if_neg hn, if_neg hn]
  exact ⟨S, sdid_none h hb⟩
 by_cases hm : subMay (x.sub f q) = true
 ·cases hl : look x.wants f with
  | none =>
   by_cases hr : x.subs <= (x.wants.length : Int)
   ·refine (ses_Want_full h f q hf hm hl hr).mono ?_
    rintro e w' ⟨rfl, hb⟩
    exact ⟨_, _, 330, rfl, none' w' hb (.inl (by unfold XS.wantE; rw [if_pos hm, hl]; simp [hr]))⟩
   ·refine (ses_Want_put h f q hf hm none hl (.inl ⟨rfl, by omega⟩)).mono ?_
    rintro e w' ⟨g, rfl, d⟩
    refine ⟨_, _, 0, rfl, ?_⟩
    have he : x.wantE f q = 0 /\ look x.wants f ≠ some q := ⟨by unfold XS.wantE; rw [if_pos hm, hl, if_neg (fun hh => hr hh.2)], by rw [hl]; simp⟩
    unfold XS.want XS.wantC
    rw [if_pos he, if_pos he]
    exact ⟨S, d⟩
  | some q' =>
   have h0 : x.wantE f q = 0 := by unfold XS.wantE; rw [if_pos hm, hl, if_neg (by simp)]
   by_cases hq : q' = q
   ·subst hq
    refine (ses_Want_same h f q' hf hm hl).mono ?_
    rintro e w' ⟨rfl, hb⟩
    exact ⟨_, _, 0, rfl, none' w' hb (.inr hl)⟩
   ·refine (ses_Want_put h f q hf hm (some q') hl (.inr ⟨q', rfl, hq⟩)).mono ?_
    rintro e w' ⟨g, rfl, d⟩
    refine ⟨_, _, 0, rfl, ?_⟩
    have he : x.wantE f q = 0 /\ look x.wants f ≠ some q := ⟨h0, by rw [hl]; simpa using hq⟩
    unfold XS.want XS.wantC
    rw [if_pos he, if_pos he]
    exact ⟨S, d⟩
 ·refine (ses_Want_bad h f q hf (by simpa using hm)).mono ?_
  rintro e w' ⟨rfl, hb⟩
  exact ⟨_, _, 2, rfl, none' w' hb (.inl (by unfold XS.wantE; rw [if_neg hm]; decide))⟩
theorem ses_Unwant_any {w : World} {B : Nat} {S : XLay} {x : XS} (h : XB w B S x) (f : List UInt8) (hf : f.length <= 1000000) :
  Calls Tryz.prog 32 #[.pointer (some ⟨S.p, 0, none⟩), .string ⟨f.toArray⟩] w fun e w' => ∃ vp vc is no, e = .returned (.tuple #[.agg #[vp, vc], .bool is, .int .i64 no]) /\ ToldX w w' S (x.unwant f) vp vc := by
 by_cases hm : filterR f = true
 ·cases hl : look x.wants f with
  | none =>
   refine (ses_Unwant_none h f hf hm hl).mono ?_
   rintro e w' ⟨rfl, hb⟩
   refine ⟨_, _, false, 0, rfl, ?_⟩
   unfold XS.unwant
   rw [if_pos hm, hl]
   exact ⟨S, sdid_none h hb⟩
  | some q =>
   refine (ses_Unwant_out h f q hf hm hl).mono ?_
   rintro e w' ⟨g, rfl, d⟩
   refine ⟨_, _, true, 0, rfl, ?_⟩
   unfold XS.unwant
   rw [if_pos hm, hl]
   exact ⟨S, d⟩
 ·refine (ses_Unwant_bad h f hf (by simpa using hm)).mono ?_
  rintro e w' ⟨rfl, hb⟩
  refine ⟨_, _, false, 2, rfl, ?_⟩
  unfold XS.unwant
  rw [if_neg hm]
  exact ⟨S, sdid_none h hb⟩
theorem ses_Anew_any {w : World} {B : Nat} {S : XLay} {x : XS} (h : XB w B S x) :
  Calls Tryz.prog 28 #[.pointer (some ⟨S.p, 0, none⟩)] w fun e w' => ∃ vp vc, e = .returned (.tuple #[.agg #[vp, vc], .int .i64 0]) /\ ToldX w w' S x.anew vp vc := by
 refine (ses_Anew h).mono ?_
 rintro e w' ⟨vp, vc, L', rfl, d⟩
 exact ⟨vp, vc, rfl, _, d⟩
end
section
attribute [local go_sem] Oper.semAt_some
def LowAt (W : Nat -> Nat) (k y : Nat) (pre : List Int) : Prop := ∃ t, t <= 64 /\ pre = (bitsTo (64 * k + t) W).map Int.ofNat /\ ∀ j, j < 64 -> y.testBit j = (decide (t <= j) && (W k).testBit j)
theorem LowAt.start (W : Nat -> Nat) (k : Nat) : LowAt W k (W k) ((bitsTo (64 * k) W).map Int.ofNat) := ⟨0, by omega, by simp, fun j _ => by simp⟩
theorem LowAt.done {W : Nat -> Nat} {k : Nat} {pre : List Int} (h : LowAt W k 0 pre) : pre = (bitsTo (64 * (k + 1)) W).map Int.ofNat := by
 obtain ⟨t, ht, rfl, hb⟩ := h
 have := bitsTo_skip W (64 * k + t) (64 - t) (fun n h1 h2 => by
  obtain ⟨j, hj⟩ : ∃ j, n = 64 * k + j := ⟨n - 64 * k, by omega⟩
  subst hj;rw [bitAt_word W k j (by omega)]
  have h3 := hb j (by omega)
  rw [Nat.zero_testBit, decide_eq_true (by omega : t <= j)] at h3
  simpa using h3.symm)
 rw [show 64 * (k + 1) = 64 * k + t + (64 - t) from by omega, this]
theorem LowAt.len {W : Nat -> Nat} {k y : Nat} {pre : List Int} (h : LowAt W k y pre) (hk : k < 1024) : pre.length <= 65536 := by
 obtain ⟨t, ht, rfl, _⟩ := h
 have := bitsTo_len W (64 * k + t)
 rw [List.length_map]
 omega
theorem LowAt.next {W : Nat -> Nat} {k y : Nat} {pre : List Int} (h : LowAt W k y pre) (h0 : y ≠ 0) (hy : y < 18446744073709551616) : LowAt W k (y &&& (y - 1)) (pre ++ [(64 * (k : Int) + (Lib.ctz 64 y : Nat))]) := by
 obtain ⟨t, ht, rfl, hb⟩ := h
 obtain ⟨b1, b2, b3, b4⟩ := bits_low y h0 hy
 generalize Lib.ctz 64 y = c at b1 b2 b3 b4 ⊢
 have h2 := hb c b1
 rw [b2] at h2
 have htc : t <= c := by
  rcases Nat.lt_or_ge c t with h | h
  ·rw [decide_eq_false (by omega : ¬ t <= c)] at h2; simp at h2
  ·exact h
 have hc : bitAt W (64 * k + c) = true := by rw [bitAt_word W k c b1]; simp at h2; exact h2.2
 have hs := bitsTo_skip W (64 * k + t) (c - t) (fun n h1 h2 => by
  obtain ⟨j, hj⟩ : ∃ j, n = 64 * k + j := ⟨n - 64 * k, by omega⟩
  subst hj;rw [bitAt_word W k j (by omega)]
  have h3 := hb j (by omega)
  rw [b3 j (by omega), decide_eq_true (by omega : t <= j)] at h3
  simpa using h3.symm)
 rw [show 64 * k + t + (c - t) = 64 * k + c from by omega] at hs
 refine ⟨c + 1, by omega, ?_, fun j hj => ?_⟩
 ·rw [show 64 * k + (c + 1) = 64 * k + c + 1 from by omega, bitsTo_take W _ hc, hs, List.map_append]
  congr 1
 ·rw [b4, hb j hj]
  have hbj := b3 j
  rw [hb j hj] at hbj
  by_cases h1 : j < c
  ·have := hbj h1
   have e1 : decide (c + 1 <= j) = false := decide_eq_false (by omega)
   rw [this, e1]; rfl
  ·by_cases h2 : j = c
   ·subst h2
    have e1 : decide (j + 1 <= j) = false := decide_eq_false (by omega)
    rw [e1]; simp
   ·have e1 : decide (c + 1 <= j) = true := decide_eq_true (by omega)
    have e2 : decide (t <= j) = true := decide_eq_true (by omega)
    rw [e1, e2]
    simp [h2]
theorem in_each2 (s : Nat) (W0 : Nat -> Nat) (w : World) (B : Nat) (hs : Blk w s (setCells W0) 181) (hW0 : ∀ i, W0 i < 18446744073709551616) (hT : TzAt w) (hb : Boxed w B 178 (.pointer (some ⟨s, 0, none⟩))) :
  SeqG Tryz.prog 190 #[.pointer (some ⟨B, 0, none⟩)] encI (Keep 0 [B, s, 1]) (Wrote []) (fun pre _ _ => pre.length <= 65536) (fun xs => xs = (bitsTo 65536 W0).map Int.ofNat) (fun _ => True) w := by
 intro lb J Jx W hW hlb hJ hJx hY h0
 have hb := boxed_below hb hW
 have hs := hs.below hW
 have hT := hT.below hW
 refine callsIn_of_wp Tryz.func190 rfl trivial ?_ rfl
 simp only [Tryz.ntmps190, List.size_toArray, List.length_cons, List.length_nil, Nat.reduceAdd, Nat.reduceSub, Array.replicate_succ, Array.replicate_zero, List.push_toArray, List.append_toArray, List.nil_append, List.cons_append]
 have hc1 := hb.cell
 gi_wp2
 refine wpIn_wide.2 (wp_scope_straight ((wpIn_wide (n := 0)).1 ?_))
 refine wpIn_seq (wpIn_label ?_)
 simp only [go_sem]
 gi_wp2
 gi_loopw [3, 4, 6] (fun _ _ i wr => ∃ (pre : List Int) (k : Nat), i = .int .i64 k /\ k <= 1024 /\ Hid (pre = (bitsTo (64 * k) W0).map Int.ofNat) /\ Boxed wr B 178 (.pointer (some ⟨s, 0, none⟩)) /\ Blk wr s (setCells W0) 181 /\ TzAt wr /\ J pre wr)
  (fun _ _ i _ => 1024 - (intOf i).toNat)
 case atStart => exact ⟨[], 0, rfl, Nat.zero_le _, hid rfl, hb, hs, hT, h0⟩
 case round =>
  obtain ⟨pre, k, rfl, hk, hn, hb, hs, hT, hj⟩ := hrel
  rcases Nat.lt_or_ge k 1024 with hlt | hge
  ·obtain ⟨x, hx⟩ : ∃ x : Int, (W0 k : Int) = x := ⟨_, rfl⟩
   have dk : decide ((k : Int) < 1024) = true := decide_eq_true (by omega)
   have kc1 : wr.cell? ⟨s, k, none⟩ = some (.int .u64 x) := by
    have := hs.cell k
    rw [setCells_get _ _ hlt, hx] at this
    exact this
   gi_wp2
   gi_region
   gi_wp2
   gi_loopw [4] (fun v wi => ∃ (pre' : List Int) (y : Nat), v = .int .u64 y /\ Hid (y < 18446744073709551616) /\ Hid (LowAt W0 k y pre') /\ Boxed wi B 178 (.pointer (some ⟨s, 0, none⟩)) /\ Blk wi s (setCells W0) 181 /\ TzAt wi /\ J pre' wi)
    (fun v _ => (intOf v).toNat)
   case atStart => exact ⟨pre, W0 k, by rw [hx], hW0 k, hid (by rw [hn.out]; exact LowAt.start W0 k), hb, hs, hT, hJ _ _ _ hj (Wrote.of_below (Below.refl _ wr).drew)⟩
   case round =>
    obtain ⟨pre', y, rfl, hy, hn', hb', hs', hT', hj'⟩ := hrel
    by_cases h0y : y = 0
    ·subst h0y
     gi_wp2
     go_roundw
     case rel => exact ⟨pre', k + 1, by go_num, by omega, hid (LowAt.done hn'.out), hb', hs', hT', hj'⟩
     case measure => simp [intOf]; omega
    ·have e0 : ((y : Int) != 0) = true := by simp; omega
     have HTZ := hid (tz64 y hy.out _ hT')
     have HP := hid (LowAt.next hn'.out h0y hy.out)
     have hcb : Lib.ctz 64 y < 64 := (Lib.lowest_bit 64 y h0y hy.out).2
     obtain ⟨c, hc⟩ : ∃ c : Nat, Lib.ctz 64 y = c := ⟨_, rfl⟩
     rw [hc] at HTZ hcb HP
     gi_wp2_with fail
     refine inW HTZ.out ?_
     rintro e w2 ⟨rfl, rfl⟩
     obtain ⟨fn, tmps, assign, body, hy2, hR⟩ := hY pre' (64 * k + c) w2 hj' (LowAt.len hn'.out hlt)
     replace hy2 : (Instr.yield lb #[.int .i64 (64 * (k : Int) + c)]).run Tryz.prog w2 = _ := hy2
     have HR := hid hR;clear hR;gi_wp2_with fail
     refine ⟨rfl, HR.out.mono ?_⟩
     rintro e W3 (⟨rfl, hJ3, hk3⟩ | ⟨rfl, hJx3⟩)
     ·have hx1 : IntKind.u64.wrap ((y : Int) - 1) = ((y - 1 : Nat) : Int) := by have := hy.out; rw [IntKind.wrap_u64]; omega
      have hx2 : bits BinOp.and IntKind.u64 (y : Int) ((y - 1 : Nat) : Int) = ((y &&& (y - 1) : Nat) : Int) := by
       have := hy.out
       rw [bits_and_u64_nat y _ this (by omega)]
      have hle : y &&& (y - 1) <= y - 1 := Nat.and_le_right
      have hn3 := HP.out
      have hb3 : Boxed W3 B 178 _ := (hk3.keep B (by simp)).trans hb'
      have hs3 : Blk W3 s _ 181 := hs'.keep (hk3.keep s (by simp))
      have hT3 : TzAt W3 := hT'.block (hk3.keep 1 (by simp))
      gi_wp2
      go_roundw
      case rel => exact ⟨_, y &&& (y - 1), by first | rfl | rw [hx2], hid (by have := hy.out; omega), hid hn3, hb3, hs3, hT3, hJ3⟩
      case measure => simp [intOf, hx2]; omega
     ·gi_wp2
      simp only [Exit.noGoto_normal]
      refine bodyPost_end (results_none rfl _ _ _) rfl ?_
      exact ⟨⟨_, rfl⟩, .inr ⟨_, trivial, hJx3⟩⟩
  ·obtain rfl : k = 1024 := by omega
   gi_wp2
   simp only [Exit.noGoto_normal]
   refine bodyPost_end (results_none rfl _ _ _) rfl ?_
   exact ⟨⟨_, rfl⟩, .inl ⟨_, hn.out, hj⟩⟩
theorem eI64 : ElemT Tryz.prog 95 2 (.int .i64 0) 1 8 := ⟨Tryz.underlying95, by kernel_rfl, by kernel_rfl⟩
def iV (x : Int) : Value := .int .i64 x
structure ColI (w : World) (pre : List Int) (W : World) : Prop where
 below : Below w.heap.size w W
 out : ∃ v, Boxed W w.heap.size 95 v /\ W.ownsRow (w.heap.size + 3) 2 1 v pre.length (pre.map iV)
theorem in_AppendSeq (s : Nat) (W0 : Nat -> Nat) (w : World) (B : Nat) (hs : Blk w s (setCells W0) 181) (hW0 : ∀ i, W0 i < 18446744073709551616) (hT : TzAt w) (hb : Boxed w B 178 (.pointer (some ⟨s, 0, none⟩))) :
  Calls Tryz.prog 189 #[.slice none 0 0, .func (.func 190) #[] #[.pointer (some ⟨B, 0, none⟩)]] w fun e w' => ∃ v, e = .returned v /\ w'.ownsRow w.heap.size 2 1 v (bitsTo 65536 W0).length (((bitsTo 65536 W0).map Int.ofNat).map iV) /\ Below w.heap.size w w' := by
 have hBl := hb.lt
 have hsl := hs.lt
 have hTl := hT.lt
 obtain ⟨n, hn⟩ : ∃ n, (bitsTo 65536 W0).length = n := ⟨_, rfl⟩
 rw [hn]
 refine calls_marks Tryz.func189 rfl ?_
 simp only [Tryz.ntmps189, List.size_toArray, List.length_cons, List.length_nil, Nat.reduceAdd, Nat.reduceSub, Array.replicate_succ, Array.replicate_zero, List.push_toArray, List.append_toArray, List.nil_append, List.cons_append]
 go_wp2_with fail
 generalize hWa : w.alloc (Obj.cells #[Value.slice none 0 0] 95) = Wa
 have hsz : Wa.heap.size = w.heap.size + 1 := by rw [<- hWa]; simp
 have hb0 : Below w.heap.size w Wa := by rw [<- hWa]; exact (Below.refl _ w).alloc (Nat.le_refl _) _
 have hbx : Boxed Wa w.heap.size 95 (.slice none 0 0) := by rw [<- hWa]; exact Boxed.new w 95 (.slice none 0 0)
 have HWa := hid hWa; clear hWa
 refine wp_range (α := Int) (gf := 190) (lb := #[.pointer (some ⟨B, 0, none⟩)]) rfl (enters_of Tryz.func190 (by kernel_rfl) rfl)
  (n₀ := 0) (L := [B, s, 1]) (M := []) (in_each2 s W0 Wa B (hs.below hb0) hW0 (hT.below hb0) (boxed_below hb hb0))
  (Nat.zero_le _) (by simp; omega) (by simp) (fun _ => rfl) (ColI w) (fun _ _ _ => False) ?hI ?hIx ?h0
  (fun pre x a' W => pre.length <= 65536 /\ a' = { tmps := #[.slice none 0 0, .func (.func 190) #[] #[.pointer (some ⟨B, 0, none⟩)], .pointer (some ⟨w.heap.size, 0, none⟩), undef, .slice none 0 0, .int .i64 x, .func (.func 190) #[] #[.pointer (some ⟨B, 0, none⟩)], .int .i64 x, undef, undef, undef, undef, undef], defers := [] }) ?hAx ?assign ?body ?done ?stop
 case hI =>
  rintro s' A A' ⟨g2, v, g1, gr⟩ hw
  rw [hsz] at hw
  exact ⟨g2.trans (hw.below g2.size (by simp <;> omega)), v, hw.boxed (by simp <;> omega) g1, not_own gr hw (fun y hy hb => by have h1 := (gr.lt y (mem_blk.1 hb)); simp at hy; omega)⟩
 case hIx => exact fun _ _ _ _ h _ => h.elim
 case h0 => exact ⟨hb0, _, hbx, World.ownsRow_nil _ _ _ _⟩
 case hAx =>
  rintro pre x a' A A' ⟨hx, rfl⟩ hl hw
  exact ⟨hx, rfl⟩
 case assign =>
  intro pre x W K hl hi hx hK
  gi_wp2
  refine hK _ _ (Below.refl _ _) hi ⟨hx, ?_⟩
  simp [encI]
 case body =>
  rintro pre x a' W hl ⟨g2, v, g1, gr⟩ ⟨hx, rfl⟩
  have c1 := g1.cell
  have f1 := g1.frozen
  obtain ⟨av, cv, rfl⟩ := own_slice gr
  rw [hsz] at hl
  have g1 := hid g1;have g2 := hid g2;have gr := hid gr;have hlr : ∀ y, y ∈ blk (.slice av pre.length cv) -> w.heap.size + 3 <= y := fun y hy => (gr.out.lt y (mem_blk.1 hy)).1
  replace hlr := hid hlr;gi_wp2_with (gi_at_builtin; refine appendIn_one rfl _ _ rfl eI64 (w.heap.size + 3) (.slice av pre.length cv) pre.length _ rfl gr.out (.int .i64 x) rfl rfl (by omega) (by omega) (by omega) ?_; intro v' w' how' hg'; have hw' := hid (Wrote.of_grown (M := blk (.slice av pre.length cv)) hg' (fun k hk => mem_blk.2 hk)); have k1 := hid (hw'.out.boxed (fun hx => by have := hlr.out _ hx; omega) g1.out); have kc := k1.out.cell; have kf := k1.out.frozen; obtain ⟨a', c', hv'⟩ := own_slice how'; subst hv'; have how' := hid how'; clear hg')
  have hall : Wrote (w.heap.size :: blk (.slice av pre.length cv)) W (w'.setCell ⟨w.heap.size, 0, none⟩ (.slice a' (pre.length + 1) c')) := ((hw'.out).sub (fun x hx => List.mem_cons_of_mem _ hx)).trans (Wrote.setCell _ _ (by simp) _)
  have hMr : ∀ y ∈ w.heap.size :: blk (.slice av pre.length cv), y = w.heap.size \/ w.heap.size + 3 <= y := fun y hy => by
   rcases List.mem_cons.1 hy with h | h
   ·exact .inl h
   ·exact .inr (hlr.out y h)
  refine ⟨Keep.of_wrote hall (Nat.zero_le _) (by simp; omega) (fun _ _ => Nat.zero_le _) (fun k hk hy => by have := hMr k hy; simp at hk; omega), ?_⟩
  refine ⟨g2.out.trans (hall.below g2.out.size (fun y hy => by have := hMr y hy; omega)), _, k1.out.set _, ?_⟩
  have := ownsRow_setCell_below how'.out (a := ⟨w.heap.size, 0, none⟩) (by simp) (.slice a' (pre.length + 1) c')
  simpa [iV] using this
 case done =>
  rintro xs W rfl ⟨g2, v, g1, gr⟩ hl hD
  rw [List.length_map] at gr
  rw [hn] at gr
  obtain ⟨av, cv, rfl⟩ := own_slice gr
  have c1 := g1.cell
  go_wp2
  refine ret_mark (v := .slice av n cv) hD (fun w' hw' => ?_)
  have wp : Wrote [Wa.heap.size] W w' := by rw [hw']; exact Wrote.putObj _ _ (by simp) _
  have hr' := not_own gr wp (fun y hy hb => by simp only [List.mem_singleton] at hy; have := (gr.lt y (mem_blk.1 hb)).1; omega)
  exact ⟨by simp [results, Tryz.results189, go_sem], _, rfl, ownsRow_mono hr' (by omega), g2.trans (wp.below g2.size (by simp; omega))⟩
 case stop => exact fun _ _ _ _ h _ _ => h.elim
theorem in_Collect (s : Nat) (W0 : Nat -> Nat) (w : World) (B : Nat) (hs : Blk w s (setCells W0) 181) (hW0 : ∀ i, W0 i < 18446744073709551616) (hT : TzAt w) (hb : Boxed w B 178 (.pointer (some ⟨s, 0, none⟩))) :
  Calls Tryz.prog 126 #[.func (.func 190) #[] #[.pointer (some ⟨B, 0, none⟩)]] w fun e w' => ∃ v, e = .returned v /\ w'.ownsRow w.heap.size 2 1 v (bitsTo 65536 W0).length (((bitsTo 65536 W0).map Int.ofNat).map iV) /\ Below w.heap.size w w' := by
 have CA := hid (in_AppendSeq s W0 w B hs hW0 hT hb)
 go_enter Tryz.func126, Tryz.ntmps126
 go_wp2_with (go_at_call 189; refine CA.out.mono ?_; rintro e w1 ⟨v, rfl, hr, hb1⟩)
 go_returns
 exact ⟨v, rfl, hr, hb1⟩
def idCells (ids : List Nat) : List Value := (sortI ids).map fun i : Nat => .int .i64 (i : Int)
theorem in_All (b s : Nat) (most : Int) (W : Nat -> Nat) (ids : List Nat) (w : World) (hI : Inb w b s most W) (hS : SetIs W ids) (hT : TzAt w) :
  Calls Tryz.prog 71 #[.pointer (some ⟨b, 0, none⟩)] w fun e w' => ∃ v, e = .returned v /\ w'.ownsRow w.heap.size 2 1 v (sortI ids).length (idCells ids) /\ Below w.heap.size w w' := by
 have CN := in_none w b s most hI.at
 have k0 := hI.at.set
 have CE := in_each s w
 have CC := in_Collect s W (w.alloc (.cells #[.pointer (some ⟨s, 0, none⟩)] 178)) w.heap.size (hI.set.alloc _) hS.lt (hT.below ((Below.refl _ w).alloc (Nat.le_refl _) _)) (Boxed.new w 178 (.pointer (some ⟨s, 0, none⟩)))
 rw [bitsTo_sortI hS, List.map_map] at CC
 have CC := hid CC;go_enter Tryz.func71, Tryz.ntmps71
 go_wp2_with (first
  | (go_at_call 109; refine CN.mono ?_; rintro e w1 ⟨rfl, rfl⟩)
  | (go_at_call 127; refine CE.mono ?_; rintro e w1 ⟨rfl, rfl⟩)
  | (go_at_call 126; refine CC.out.mono ?_; rintro e w1 ⟨v, rfl, hr, hb⟩))
 go_ret
 exact ⟨v, rfl, ownsRow_mono hr (by simp), ((Below.refl _ w).alloc (Nat.le_refl _) _).trans (hb.mono (by simp))⟩
end
section
theorem in_Come_bad (b s : Nat) (most : Int) (W : Nat -> Nat) (z : Int) (w : World) (hI : Inb w b s most W) (hz : ¬ (1 <= z /\ z <= 65535)) :
  Calls Tryz.prog 54 #[.pointer (some ⟨b, 0, none⟩), .int .i64 z] w fun e w' => e = .returned (.tuple #[.bool false, .int .i64 2]) /\ w = w' := by
 have CN := in_none w b s most hI.at
 have CM := in_may z w
 have hm : mayI z = false := by
  cases h : mayI z with
  | false => rfl
  | true => simp [mayI] at h; exact absurd h hz
 rw [hm] at CM
 have CH : True := trivial
 go_enter Tryz.func54, Tryz.ntmps54
 go_wp2
 apply wp_scope_fwd 0 rfl
 go_wp2_with (first
  | (go_at_call 109; refine CN.mono ?_; rintro e w1 ⟨rfl, rfl⟩)
  | (go_at_call 110; refine CM.mono ?_; rintro e w1 ⟨rfl, rfl⟩)
  | (go_at_call 111; refine CH.mono ?_; rintro e w1 ⟨rfl, hb⟩))
 refine wp_goto ⟨rfl, ?_⟩
 go_wp2
 rw [Exit.noGoto_ret]
 go_ret2
 exact ⟨rfl, rfl⟩
theorem in_Come_there (b s : Nat) (most : Int) (W : Nat -> Nat) (ids : List Nat) (z : Int) (w : World) (hI : Inb w b s most W) (hS : SetIs W ids) (h0 : 1 <= z) (h1 : z <= 65535) (hin : z.toNat ∈ ids) :
  Calls Tryz.prog 54 #[.pointer (some ⟨b, 0, none⟩), .int .i64 z] w fun e w' => e = .returned (.tuple #[.bool false, .int .i64 0]) /\ Below w.heap.size w w' := by
 have CN := in_none w b s most hI.at
 have CM := in_may z w
 have hm : mayI z = true := by simp [mayI, h0, h1]
 rw [hm] at CM
 have CH := in_Has b s most W ids z w hI hS h0 h1
 have hd : decide (z.toNat ∈ ids) = true := decide_eq_true hin
 rw [hd] at CH
 clear hd;go_enter Tryz.func54, Tryz.ntmps54
 go_wp2
 apply wp_scope_fwd 0 rfl
 go_wp2_with (first
  | (go_at_call 109; refine CN.mono ?_; rintro e w1 ⟨rfl, rfl⟩)
  | (go_at_call 110; refine CM.mono ?_; rintro e w1 ⟨rfl, rfl⟩)
  | (go_at_call 111; refine CH.mono ?_; rintro e w1 ⟨rfl, hb⟩))
 try simp only [go_sem]
 try go_wp2
 go_returns
 exact ⟨rfl, hb⟩
theorem in_Come_full (b s : Nat) (most : Int) (W : Nat -> Nat) (ids : List Nat) (z : Int) (w : World) (hI : Inb w b s most W) (hS : SetIs W ids) (hT : TzAt w) (h0 : 1 <= z) (h1 : z <= 65535) (hnot : z.toNat ∉ ids) (hl : most <= (ids.length : Int)) :
  Calls Tryz.prog 54 #[.pointer (some ⟨b, 0, none⟩), .int .i64 z] w fun e w' => e = .returned (.tuple #[.bool false, .int .i64 310]) /\ Below w.heap.size w w' := by
 have CN := in_none w b s most hI.at
 have CM := in_may z w
 have hm : mayI z = true := by simp [mayI, h0, h1]
 rw [hm] at CM
 have CH := in_Has b s most W ids z w hI hS h0 h1
 have hd : decide (z.toNat ∈ ids) = false := decide_eq_false hnot
 rw [hd] at CH
 obtain ⟨n, hn⟩ : ∃ n : Int, (ids.length : Int) = n := ⟨_, rfl⟩
 have CL := hid fun (w1 : World) (hb : Below w.heap.size w w1) => in_Len b s most W ids w1 (hI.below hb) hS (hT.below hb)
 rw [hn] at CL
 have kd : decide (most <= n) = true := decide_eq_true (by omega)
 clear hd hn hl;go_enter Tryz.func54, Tryz.ntmps54
 go_wp2
 apply wp_scope_fwd 0 rfl
 go_wp2_with (first
  | (go_at_call 109; refine CN.mono ?_; rintro e w1 ⟨rfl, rfl⟩)
  | (go_at_call 110; refine CM.mono ?_; rintro e w1 ⟨rfl, rfl⟩)
  | (go_at_call 111; refine CH.mono ?_; rintro e w1 ⟨rfl, hb⟩))
 have kb : w1.cell? ⟨b, 1, none⟩ = some (.int .i64 most) := (hI.below hb).at.most
 clear CH CM CN;refine regionQ [(1000, fun w' => w'.cell? ⟨b, 1, none⟩ = some (.int .i64 most))] (by kernel_rfl) ⟨by go_simp, trivial⟩ fun KQ hKQ => ?_
 refine tQ [0, 2] ?_;refine nQ 3 ?_;refine tQ [4] ?_;refine lQ 5 0 ?_;refine sQ 1 fun K hK => ?_;simp only [GO];go_simp;refine (CL.out _ hb.drew).mono ?_
 rintro e w2 ⟨rfl, hb2⟩
 replace hb2 := hb.trans ((undrew hb2).mono hb.size)
 refine hK _ _ ⟨⟨fun _ => (hI.below hb2).at.most, trivial⟩, ?_⟩
 clear hK K;refine tQ [6] ?_;refine dQ (hKQ.out _ _ ?_);clear hKQ KQ;go_wp2
 refine wp_goto ⟨rfl, ?_⟩
 go_wp2
 rw [Exit.noGoto_ret]
 go_ret2
 exact ⟨rfl, hb2⟩
theorem in_Go_bad (b s : Nat) (most : Int) (W : Nat -> Nat) (z : Int) (w : World) (hI : Inb w b s most W) (hz : ¬ (1 <= z /\ z <= 65535)) :
  Calls Tryz.prog 193 #[.pointer (some ⟨b, 0, none⟩), .int .i64 z] w fun e w' => e = .returned (.tuple #[.bool false, .int .i64 2]) /\ w = w' := by
 have CN := in_none w b s most hI.at
 have CM := in_may z w
 have hm : mayI z = false := by
  cases h : mayI z with
  | false => rfl
  | true => simp [mayI] at h; exact absurd h hz
 rw [hm] at CM
 have CH : True := trivial
 go_enter Tryz.func193, Tryz.ntmps193
 go_wp2_with (first
  | (go_at_call 109; refine CN.mono ?_; rintro e w1 ⟨rfl, rfl⟩)
  | (go_at_call 110; refine CM.mono ?_; rintro e w1 ⟨rfl, rfl⟩)
  | (go_at_call 111; refine CH.mono ?_; rintro e w1 ⟨rfl, hb⟩))
 go_returns
 exact ⟨rfl, rfl⟩
theorem in_Go_not (b s : Nat) (most : Int) (W : Nat -> Nat) (ids : List Nat) (z : Int) (w : World) (hI : Inb w b s most W) (hS : SetIs W ids) (h0 : 1 <= z) (h1 : z <= 65535) (hin : z.toNat ∉ ids) :
  Calls Tryz.prog 193 #[.pointer (some ⟨b, 0, none⟩), .int .i64 z] w fun e w' => e = .returned (.tuple #[.bool false, .int .i64 0]) /\ Below w.heap.size w w' := by
 have CN := in_none w b s most hI.at
 have CM := in_may z w
 have hm : mayI z = true := by simp [mayI, h0, h1]
 rw [hm] at CM
 have CH := in_Has b s most W ids z w hI hS h0 h1
 have hd : decide (z.toNat ∈ ids) = false := decide_eq_false hin
 rw [hd] at CH
 clear hd;go_enter Tryz.func193, Tryz.ntmps193
 go_wp2_with (first
  | (go_at_call 109; refine CN.mono ?_; rintro e w1 ⟨rfl, rfl⟩)
  | (go_at_call 110; refine CM.mono ?_; rintro e w1 ⟨rfl, rfl⟩)
  | (go_at_call 111; refine CH.mono ?_; rintro e w1 ⟨rfl, hb⟩))
 go_returns
 exact ⟨rfl, hb⟩
theorem setCells_one (W : Nat -> Nat) : ∀ v ∈ (setCells W).toList, v.oneCell' = true := by
 intro v hv
 simp only [setCells, Array.toList_ofFn, List.mem_ofFn] at hv
 obtain ⟨i, rfl⟩ := hv
 rfl
theorem in_Copy (b s : Nat) (most : Int) (W : Nat -> Nat) (w : World) (hI : Inb w b s most W) :
  Calls Tryz.prog 84 #[.pointer (some ⟨b, 0, none⟩)] w fun e w' => ∃ b' s', e = .returned (.pointer (some ⟨b', 0, none⟩)) /\ Inb w' b' s' most W /\ b' ≠ s' /\ w.heap.size <= b' /\ w.heap.size <= s' /\ Below w.heap.size w w' := by
 have CN := hid (in_none w b s most hI.at)
 have k0 := hI.at.set
 have k1 := fun W (hb : Below w.heap.size w W) => (hI.below hb).at.most
 have hset := hI.set
 have hone := setCells_one W
 have hsz := setCells_size W
 have hfin : ∀ w' b', Inb w' b' w.heap.size most W ↔ Blk w' b' #[.pointer (some ⟨w.heap.size, 0, none⟩), .int .i64 most] 183 /\ Blk w' w.heap.size (setCells W) 181 := fun w' b' => ⟨fun h => ⟨h.box, h.set⟩, fun h => ⟨h.1, h.2⟩⟩
 obtain ⟨CS, hCS⟩ : ∃ CS, setCells W = CS := ⟨_, rfl⟩
 rw [hCS] at hset hone hsz hfin
 have hz : Tryz.zeroCells181.size = 1024 := by rw [show Tryz.zeroCells181 = setCells (fun _ => 0) by rw [setCells_zero]; kernel_rfl]; exact setCells_size _
 obtain ⟨Z, hZ⟩ : ∃ Z, Tryz.zeroCells181 = Z := ⟨_, rfl⟩
 rw [hZ] at hz
 have HS : (Tryz.prog.info? 181).map (·.size) = some CS.size := by rw [hsz]; kernel_rfl
 have hset := hid hset; have HS := hid HS; have hone := hid hone; have hfin := hid hfin
 clear hCS;go_enter Tryz.func84, Tryz.ntmps84
 go_upto_region 3 with (go_at_call 109; refine CN.out.mono ?_; rintro e w1 ⟨rfl, rfl⟩)
 go_wp2_with (first
  | (refine wpList_load_blk rfl 181 _ rfl s CS rfl hset.out Tryz.underlying181 rfl HS.out ?_)
  | (refine wS 181 1024 rfl w.heap.size _ CS rfl rfl (Blk.new w _ _) hsz hz hone.out ?_; intro w5 hb5 hw5; have hb05 := hid (((Below.refl w.heap.size w).alloc (Nat.le_refl _) (.cells Z 181)).trans (hw5.below (by simp) (by simp))); have k15 := k1 w5 hb05.out))
 go_ret
 have hlt := hb5.lt
 exact ⟨w5.heap.size, w.heap.size, rfl, (hfin.out _ _).2 ⟨Blk.new _ _ _, hb5.alloc _⟩, by omega, by omega, by omega, hb05.out.alloc hb05.out.size _⟩
end
section
theorem results_tct {P : Program} {w : World} {fn : Func} {a b c : Tmp} {t : TypeId} (h : fn.results = #[.tmp a, .cell b t, .tmp c]) {tmps : Array Value} {p : Addr} (hp : tmps.getD b undef = .pointer (some p)) {v x y : Value} (hl : (loadVar t p).run P w = .ok v w) (hx : tmps.getD a undef = x) (hy : tmps.getD c undef = y) : (results fn tmps).run P w = .ok (.tuple #[x, v, y]) w := by
 rw [Array.getD_eq_getD_getElem?] at hp hx hy
 simp [results, h, hp, hx, hy, asAddr, hl]
theorem XB.reids {w w' : World} {B : Nat} {S : XLay} {x : XS} (h : XB w B S x) (W' : Nat -> Nat) (l : List Nat) (hw : Wrote [S.sb] w w') (hI : Inb w' S.ib S.sb x.most W') (hs : SetIs W' l) (hl : ∀ i ∈ l, 1 <= i /\ i <= 65535) (hn : (l.length : Int) <= x.most) :
  XB w' B { S with W := W' } { x with ids := l } := by
 have nd := h.nodup
 have hgg := h.gg
 simp only [XLay.own, List.nodup_cons, List.mem_cons, not_or] at nd hgg
 have ho : S.sb ∉ S.o.foot := h.apart _ (by simp [XLay.own])
 refine ⟨h.box.wrote hw (by simp only [List.mem_singleton]; exact nd.1.2.1), h.ob.out hw (by simpa using ho) (by simp only [List.mem_singleton]; exact hgg.2.2.1), h.nil, hI, hs, h.wm.wrote hw (by simp only [List.mem_singleton]; exact fun e => nd.2.2.1.1 e.symm), h.will.keep (fun b hb => hw.block b (h.will.lt b hb) (by simp only [List.mem_singleton]; rintro rfl; exact nd.2.2.1.2 hb)), h.apart, h.nodup, h.gg, ⟨h.ok.most, h.ok.subs, hl, hn, h.ok.wants, h.ok.keep⟩⟩
theorem ses_Came_not {w : World} {B : Nat} {S : XLay} {x : XS} (h : XB w B S x) (z no : Int)
  (hC : ∀ W, XB W W.heap.size S x -> Calls Tryz.prog 54 #[.pointer (some ⟨S.ib, 0, none⟩), .int .i64 z] W fun e w' => e = .returned (.tuple #[.bool false, .int .i64 no]) /\ Below W.heap.size W w') :
  Calls Tryz.prog 76 #[.pointer (some ⟨S.p, 0, none⟩), .int .i64 z] w fun e w' => e = .returned (.tuple #[.bool false, .agg didZ, .int .i64 no]) /\ Below w.heap.size w w' := by
 have CN := hid fun o => ses_none (h.alloc o)
 have H := hid h;have HB0 := hid ((Below.refl w.heap.size w).alloc (Nat.le_refl _) (.cells didZ 53))
 have hZ0 := hid (Blk.new w didZ 53)
 have hX0 := hid (h.below HB0.out).top
 have k5 : (w.alloc (.cells didZ 53)).cell? ⟨S.p, 5, none⟩ = some (.pointer (some ⟨S.ib, 0, none⟩)) := hX0.out.box.cell 5
 have f1 : w.heap.size ∉ S.foot := h.foot_lt (Nat.le_refl _)
 have hgl := h.ob.tz.lt
 have CI := hid (hC _ hX0.out)
 clear hC;unfold didZ at *
 go_enter Tryz.func76, Tryz.ntmps76
 go_wp2_with (first
  | (go_at_call 60; refine (CN.out _).mono ?_; rintro e w0 ⟨rfl, rfl⟩)
  | (go_at_call 54; refine CI.out.mono ?_; rintro e w1 ⟨rfl, hb1⟩; have hZ1 := hid (hZ0.out.below hb1); have hB1 := hid (HB0.out.trans (hb1.mono HB0.out.size))))
 refine regionQ [(4, fun w' => Blk w' w.heap.size #[.slice none 0 0, .slice none 0 0] 53)] (by kernel_rfl) ⟨hZ1.out, trivial⟩ fun KQ hKQ => ?_
 refine tQ [0] ?_;refine lR 1 0 rfl rfl rfl rfl (fun w' hf => run_load_blk hf 53 Tryz.underlying53 rfl (by kernel_rfl)) ?_
 simp only [PT];refine tQ [2, 3] ?_;refine sQ 4 fun K hK => ?_;simp only [GO];refine wW 53 2 rfl w.heap.size _ #[.slice none 0 0, .slice none 0 0] rfl rfl hZ1.out rfl rfl (by simp [Value.oneCell']) fun w5 hb5 hw5 => ?_
 refine hK _ _ ⟨⟨fun _ => hb5, trivial⟩, ?_⟩
 clear hK K;try simp only [PT]
 refine tQ [5] ?_;refine dQ (hKQ.out _ _ ?_);clear hKQ KQ;go_wp2
 refine bodyPost_ret (results_tct Tryz.results76 rfl (run_loadVar_blk hb5 53 Tryz.underlying53 rfl (by kernel_rfl)) rfl rfl) rfl ?_
 exact ⟨rfl, hB1.out.drew.trans (hw5.below hB1.out.size (by simp))⟩
theorem ses_Came_new {w : World} {B : Nat} {S : XLay} {x : XS} (h : XB w B S x) (z : Int) (hz : 1 <= z /\ z <= 65535) (hnot : z.toNat ∉ x.ids) (hr : (x.ids.length : Int) < x.most) :
  Calls Tryz.prog 76 #[.pointer (some ⟨S.p, 0, none⟩), .int .i64 z] w fun e w' => ∃ g S', e = .returned (.tuple #[.bool true, .agg #[.slice none 0 0, .slice (some ⟨g, 0, none⟩) 1 1], .int .i64 0]) /\
   SDid w w' S S' { x with ids := z.toNat :: x.ids } (.slice none 0 0) (.slice (some ⟨g, 0, none⟩) 1 1) [] [⟨false, x.inr z⟩] := by
 have CN := hid fun o => ses_none (h.alloc o)
 have H := hid h;have HB0 := hid ((Below.refl w.heap.size w).alloc (Nat.le_refl _) (.cells didZ 53))
 have hZ0 := hid (Blk.new w didZ 53)
 have hX0 := hid (h.below HB0.out).top
 have k5 : (w.alloc (.cells didZ 53)).cell? ⟨S.p, 5, none⟩ = some (.pointer (some ⟨S.ib, 0, none⟩)) := hX0.out.box.cell 5
 have f1 : w.heap.size ∉ S.foot := h.foot_lt (Nat.le_refl _)
 have hgl := h.ob.tz.lt
 have hgs : S.sb ≠ 1 := fun e => h.gg (by simp [XLay.own, <- e])
 have CI := hid (in_Come S.ib S.sb x.most S.W x.ids z _ hX0.out.inb hX0.out.set hX0.out.ob.tz hz.1 hz.2 hgs hnot hr)
 have hset := h.set.come (n := z.toNat) (by omega) hnot
 have CR : Hid (∀ W, Inb W S.ib S.sb x.most (tog S.W z.toNat) -> Wrote [S.sb] (w.alloc (.cells didZ 53)) W -> XB W w.heap.size { S with W := tog S.W z.toNat } { x with ids := z.toNat :: x.ids }) := hid fun W hI hw => (h.top.below HB0.out).reids _ _ hw hI hset (fun i hi => by
  rcases List.mem_cons.1 hi with rfl | hi
  ·omega
  ·exact h.ok.ids i hi) (by simp; omega)
 have hsl : S.sb < w.heap.size := h.inb.set.lt
 have hfs := hid (show S.sb ∈ S.foot by simp [XLay.foot, XLay.own])
 clear hset hgs hr hnot;unfold didZ at *
 go_enter Tryz.func76, Tryz.ntmps76
 go_wp2_with (first
  | (go_at_call 60; refine (CN.out _).mono ?_; rintro e w0 ⟨rfl, rfl⟩)
  | (go_at_call 54; refine CI.out.mono ?_; rintro e w1 ⟨rfl, hI1, hw1⟩; have hX1 := hid (CR.out w1 hI1 hw1); have hZ1 := hid (hZ0.out.wrote hw1 (by simp only [List.mem_singleton]; omega)); have hW1 := hid hw1; have CS := ses_in hX1.out z; unfold XS.inr RowV.vals at CS; dsimp only at CS; have CS := hid CS; clear hI1 hw1)
  | (go_at_call 72; refine CS.out.mono ?_; rintro e w2 ⟨rfl, hb2⟩; have hX2 := hid (hX1.out.below hb2); have hZ2 := hid (hZ1.out.below hb2))
  | (refine wS 53 2 rfl w.heap.size _ #[.slice none 0 0, .slice (some ⟨w2.heap.size, 0, none⟩) 1 1] rfl rfl (hZ2.out.alloc _) rfl rfl (by simp [Value.oneCell']) ?_; intro w3 hb3 hw3))
 refine regionQ [(4, fun w' => Blk w' w.heap.size #[.slice none 0 0, .slice (some ⟨w2.heap.size, 0, none⟩) 1 1] 53)] (by kernel_rfl) ⟨hb3, trivial⟩ fun KQ hKQ => ?_
 try simp only [PT]
 refine tQ [0] ?_;refine lR 1 0 rfl rfl rfl rfl (fun w' hf => run_load_blk hf 53 Tryz.underlying53 rfl (by kernel_rfl)) ?_
 simp only [PT];refine tQ [2, 3] ?_;refine sQ 4 fun K hK => ?_;simp only [GO];refine wW 53 2 rfl w.heap.size _ #[.slice none 0 0, .slice (some ⟨w2.heap.size, 0, none⟩) 1 1] rfl rfl hb3 rfl rfl (by simp [Value.oneCell']) fun w5 hb5 hw5 => ?_
 refine hK _ _ ⟨⟨fun _ => hb5, trivial⟩, ?_⟩
 clear hK K;try simp only [PT]
 refine tQ [5] ?_;refine dQ (hKQ.out _ _ ?_);clear hKQ KQ;go_wp2
 refine bodyPost_ret (results_tct Tryz.results76 rfl (run_loadVar_blk hb5 53 Tryz.underlying53 rfl (by kernel_rfl)) rfl rfl) rfl ?_
 have hs1 : w.heap.size < w1.heap.size := hZ1.out.lt
 have hs2 : w1.heap.size <= w2.heap.size := hb2.size
 have hw35 : Wrote [w.heap.size] (w2.alloc (.cells #[.bool false, .int .i64 4, .string ⟨x.o.client.toArray⟩, .int .i64 0, .int .i64 z, .string ⟨#[]⟩, .string ⟨#[]⟩, .int .i64 0, .bool false, .int .i64 0] 115)) w5 := (hw3.trans (Wrote.of_below (Below.refl w3.heap.size w3).drew)).trans hw5
 have hnf : w.heap.size ∉ XLay.foot { S with W := tog S.W z.toNat } := H.out.foot_lt (Nat.le_refl _)
 have hx5 := (hX2.out.alloc (.cells #[.bool false, .int .i64 4, .string ⟨x.o.client.toArray⟩, .int .i64 0, .int .i64 z, .string ⟨#[]⟩, .string ⟨#[]⟩, .int .i64 0, .bool false, .int .i64 0] 115)).out hw35 (by simpa using hnf) (by simp only [List.mem_singleton]; omega)
 have hne : w2.heap.size ∉ [w.heap.size] := by simp only [List.mem_singleton]; omega
 have hC5 := (Blk.new w2 #[.bool false, .int .i64 4, .string ⟨x.o.client.toArray⟩, .int .i64 0, .int .i64 z, .string ⟨#[]⟩, .string ⟨#[]⟩, .int .i64 0, .bool false, .int .i64 0] 115).wrote hw35 hne
 refine ⟨w2.heap.size, { S with W := tog S.W z.toNat }, rfl, ⟨hx5.top, rfl, ⟨?_, fun b hb => .inl hb⟩, World.ownsRow_nil _ _ _ _, ?_, ?_⟩⟩
 ·have hall : Wrote [S.sb] w w2 := ((Wrote.alloc _ _ _).trans hW1.out).trans (Wrote.of_below hb2)
  exact ((hall.trans (Wrote.alloc _ _ _)).andNew hw35 (by simp)).sub (by simpa using hfs.out)
 ·exact ⟨by simp [ChangeV.len], .inr ⟨w2.heap.size, 1, _, rfl, by omega, hC5, by simp, by decide, by simp, by simp [ChangeV.cells, RowV.vals, XS.inr]⟩⟩
 ·intro b hb
  simp [blk, Value.ownBlock] at hb
  subst hb;exact H.out.foot_lt (by omega)
theorem ses_Came_any {w : World} {B : Nat} {S : XLay} {x : XS} (h : XB w B S x) (z : Int) :
  Calls Tryz.prog 76 #[.pointer (some ⟨S.p, 0, none⟩), .int .i64 z] w fun e w' => ∃ vp vc is no, e = .returned (.tuple #[.bool is, .agg #[vp, vc], .int .i64 no]) /\ ToldX w w' S (x.came z) vp vc := by
 have not' : ∀ no, (∀ W, XB W W.heap.size S x -> Calls Tryz.prog 54 #[.pointer (some ⟨S.ib, 0, none⟩), .int .i64 z] W fun e w' => e = .returned (.tuple #[.bool false, .int .i64 no]) /\ Below W.heap.size W w') -> x.came z = ⟨x, [], []⟩ ->
   Calls Tryz.prog 76 #[.pointer (some ⟨S.p, 0, none⟩), .int .i64 z] w fun e w' => ∃ vp vc is no, e = .returned (.tuple #[.bool is, .agg #[vp, vc], .int .i64 no]) /\ ToldX w w' S (x.came z) vp vc := fun no hC he => by
  refine (ses_Came_not h z no hC).mono ?_
  rintro e w' ⟨rfl, hb⟩
  rw [he]
  exact ⟨_, _, false, no, rfl, S, sdid_none h hb⟩
 by_cases hz : 1 <= z /\ z <= 65535
 ·by_cases hin : z.toNat ∈ x.ids
  ·exact not' 0 (fun W hX => in_Come_there S.ib S.sb x.most S.W x.ids z W hX.inb hX.set hz.1 hz.2 hin) (by unfold XS.came; rw [if_neg (fun hh => hh.2.1 hin)])
  ·by_cases hr : (x.ids.length : Int) < x.most
   ·refine (ses_Came_new h z hz hin hr).mono ?_
    rintro e w' ⟨g, S', rfl, d⟩
    refine ⟨_, _, true, 0, rfl, S', ?_⟩
    unfold XS.came
    rw [if_pos ⟨hz, hin, hr⟩]
    exact d
   ·exact not' 310 (fun W hX => in_Come_full S.ib S.sb x.most S.W x.ids z W hX.inb hX.set hX.ob.tz hz.1 hz.2 hin (by omega)) (by unfold XS.came; rw [if_neg (fun hh => hr hh.2.2)])
 ·exact not' 2 (fun W hX => (in_Come_bad S.ib S.sb x.most S.W z W hX.inb hz).mono fun e w' ⟨h1, h2⟩ => ⟨h1, h2 ▸ Below.refl _ _⟩) (by unfold XS.came; rw [if_neg (fun hh => hz hh.1)])
end
end Go.Proofs.YtoinabapaeebfaaGreatDoor
