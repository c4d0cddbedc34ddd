/- Parts of the proof of SessionRows: contracts of functions that it reaches, and plain lemmas. No condition of their own. -/
import Derived.Test.YtoinabapaeebfaaGreatDoorPk23
import Derived.Test.YtoinabapaeebfaaGreatDoorPk24
import Derived.Test.YtoinabapaeebfaaGreatDoorPk13
import Derived.Test.YtoinabapaeebfaaGreatDoorPk16
import Derived.Test.YtoinabapaeebfaaGreatDoorPk12
import Derived.Test.YtoinabapaeebfaaGreatDoorPk21
set_option linter.unusedSimpArgs false
set_option linter.unusedVariables false
set_option maxRecDepth 100000
set_option maxHeartbeats 8000000
namespace Go.Proofs.YtoinabapaeebfaaGreatDoor
open Go.RowKit Go.Shelf
section
theorem appR_nil (W : World) : (Builtin.append_ #[34, 34] 34 #[.slice none 0 0, .slice none 0 0]).run Tryz.prog W = .ok (.slice none 0 0) W := by kernel_rfl
theorem grow_nil (w : World) : Calls Tryz.prog 137 #[.slice none 0 0, .int .i64 0] w fun e w' => e = .returned (.slice none 0 0) /\ w = w' := by
 go_enter Tryz.func137, Tryz.ntmps137
 go_wp2
 go_ret
 exact ⟨rfl, rfl⟩
theorem concat_nil (g : Nat) (w : World) (h : Blk w g #[.slice none 0 0, .slice none 0 0] 34) :
  Calls Tryz.prog 83 #[.slice (some ⟨g, 0, none⟩) 2 2] w fun e w' => e = .returned (.slice none 0 0) /\ w = w' := by
 have CG := hid grow_nil;have ha := appR_nil
 have c0 : w.cell? ⟨g, 0, none⟩ = some (.slice none 0 0) := h.cell 0
 have c1 : w.cell? ⟨g, 1, none⟩ = some (.slice none 0 0) := h.cell 1
 have hc : ∀ k, k < 2 -> w.cell? ⟨g, k, none⟩ = some (.slice none 0 0) := fun k hk => by
  rcases (by omega : k = 0 \/ k = 1) with rfl | rfl
  ·exact c0
  ·exact c1
 have hc := hid hc;clear c0 c1;go_enter Tryz.func83, Tryz.ntmps83
 go_wp2
 go_loopw [3, 5, 11] (fun s _ i wr => ∃ (k : Nat), s = .int .i64 0 /\ i = .int .i64 k /\ k <= 2 /\ w = wr) (fun _ _ i _ => 2 - (intOf i).toNat)
 case atStart => exact ⟨0, rfl, rfl, by omega, rfl⟩
 case round =>
  obtain ⟨k, rfl, rfl, hk, rfl⟩ := hrel
  rcases Nat.lt_or_ge k 2 with hlt | hge
  ·have dk : decide ((k : Int) < 2) = true := decide_eq_true (by omega)
   have hck := hc.out k hlt
   go_wp2
   go_roundw
   case rel => exact ⟨k + 1, rfl, by go_num, by omega, trivial⟩
   case measure => simp [intOf]; omega
  ·obtain rfl : k = 2 := by omega
   go_wp2_with (go_at_call 137; refine (CG.out _).mono ?_; rintro e w1 ⟨rfl, rfl⟩)
   go_loopw [6, 8, 27] (fun s _ i wr => ∃ (k : Nat), s = .slice none 0 0 /\ i = .int .i64 k /\ k <= 2 /\ w = wr) (fun _ _ i _ => 2 - (intOf i).toNat)
   case atStart => exact ⟨0, rfl, rfl, by omega, rfl⟩
   case round =>
    obtain ⟨k, rfl, rfl, hk, rfl⟩ := hrel
    rcases Nat.lt_or_ge k 2 with hlt | hge
    ·have dk : decide ((k : Int) < 2) = true := decide_eq_true (by omega)
     have hck := hc.out k hlt
     go_wp2
     go_roundw
     case rel => exact ⟨k + 1, rfl, by go_num, by omega, trivial⟩
     case measure => simp [intOf]; omega
    ·obtain rfl : k = 2 := by omega
     go_wp2
     go_ret
     exact ⟨rfl, rfl⟩
theorem range_below2 {w w' : World} {g o : Nat} {cs : List Value} (h : w.rangeAt g o cs) (hg : g < w.heap.size) (hb : Below w.drew.heap.size w.drew w') : w'.rangeAt g o cs := fun j v hj => by
 have h1 := h j v hj
 exact (hb.cell (p := ⟨g, o + j, none⟩) hg).trans h1
theorem look_pm {w : World} {m : Nat} {G : Int -> Option Value} (h : IM .i64 w m G) (k : Int) {v : Value} (hv : (G k).getD (.slice none 0 0) = v) :
  (Instr.lookup 156 (.map (some m)) (.int .i64 k) false).run Tryz.prog w = .ok v w := by
 rw [run_lookup_im 156 30 34 Tryz.underlying156 Tryz.underlying30 h (.slice none 0 0) (by kernel_rfl) k false, <- hv]
 rfl
def XS.new (win room most subs : Int) (client : List UInt8) : XS := ⟨most, subs, ⟨client, win, room, 0, 1, []⟩, [], [], false, false, 0, 0, none⟩
theorem ses_Of_new (win room most subs : Int) (client : List UInt8) (base : Nat) (g : Nat) (w : World) (hT : TzAt w) (hv : RowsAt w base (.slice (some ⟨g, 0, none⟩) 1 1) [sessV client 0 1])
  (hw : 1 <= win /\ win <= 100) (hr : 1 <= room /\ room <= 1000) (hm : 1 <= most /\ most <= 1000) (hs : 1 <= subs /\ subs <= 100) (hc : client.length <= 23) (hmay : sessMay (sessV client 0 1) = true) :
  Calls Tryz.prog 37 #[.agg #[.int .i64 win, .int .i64 room, .int .i64 most, .int .i64 subs], .slice (some ⟨g, 0, none⟩) 1 1] w fun e w' => ∃ S, e = .returned (.tuple #[.pointer (some ⟨S.p, 0, none⟩), .int .i64 0]) /\
   XB w' w'.heap.size S (XS.new win room most subs client) /\ Stp [] S.foot w w' := by
 have hbx : ∀ (o : Obj), Below w.heap.size w (w.alloc o) := fun o => (Below.refl _ w).alloc (Nat.le_refl _) o
 have CP := hid (fun o => ses_parted base (.slice (some ⟨g, 0, none⟩) 1 1) [sessV client 0 1] (w.alloc o) (ownsRow_below hv (hbx o)) (by simp))
 have d1 : decide (subs < 1) = false := decide_eq_false (by omega)
 have d2 : decide (100 < subs) = false := decide_eq_false (by omega)
 have d3 : decide (subs < 0) = false := decide_eq_false (by omega)
 go_enter Tryz.func37, Tryz.ntmps37
 go_wp2_with fail
 refine (CP.out _).mono ?_
 rintro e w1 ⟨m, G, rfl, hpm, hml, hb1⟩
 have hpm := hid hpm;have hb1 := hid hb1;have HB := hid hbx;clear hbx CP;obtain ⟨a1, c1, hG1⟩ := own_slice (hpm.out.rows 1)
 have hk1 : ofKind [sessV client 0 1] 1 = [sessV client 0 1] := by simp [ofKind, sessV]
 have hk2 : ofKind [sessV client 0 1] 2 = [] := by simp [ofKind, sessV]
 have hk3 : ofKind [sessV client 0 1] 3 = [] := by simp [ofKind, sessV]
 have hk4 : ofKind [sessV client 0 1] 4 = [] := by simp [ofKind, sessV]
 have hr1 := hpm.out.rows 1
 rw [hG1, hk1] at hr1
 rw [hk1] at hG1
 replace hr1 : w1.ownsRow w.heap.size 33 9 (.slice a1 1 c1) 1 ([sessV client 0 1].flatMap RowV.cl) := ownsRow_mono hr1 (by simp)
 replace hG1 : (G 1).getD (.slice none 0 0) = .slice a1 1 c1 := hG1
 obtain ⟨g1, rfl, hcap1, hrow1⟩ := own_range RowV.cl RowV.cllen (l := [sessV client 0 1]) (n := 1) rfl hr1 (k := 0) rfl
 have hg1l := hid (hr1.lt g1 rfl)
 have hG2 : (G 2).getD (.slice none 0 0) = .slice none 0 0 := by rw [hpm.out.no 2 hk2]; rfl
 have hG3 : (G 3).getD (.slice none 0 0) = .slice none 0 0 := by rw [hpm.out.no 3 hk3]; rfl
 have hG4 : (G 4).getD (.slice none 0 0) = .slice none 0 0 := by rw [hpm.out.no 4 hk4]; rfl
 have hrow1 := hid hrow1;have hr1 := hid hr1;clear hk1 hk2 hk3 hk4;replace hG1 := hid hG1;replace hG2 := hid hG2;replace hG3 := hid hG3;replace hG4 := hid hG4;have hbox := hid ((Blk.new w #[.int .i64 win, .int .i64 room, .int .i64 most, .int .i64 subs] 59).below hb1.out)
 go_wp2_with fail
 refine regionQ [(1000, fun w' => IM .i64 w' m G)] (by kernel_rfl) ⟨hpm.out.map.below ((Below.refl _ _).drew), trivial⟩ fun KQ hKQ => ?_
 try simp only [PT]
 refine tQ [0] ?_;refine lookQ 1 rfl (by kernel_rfl) (by kernel_rfl) rfl rfl rfl 0 rfl (by kernel_rfl) _ (fun w' hf => look_pm hf 1 hG1.out) ?_
 try simp only [PT]
 refine tQ [2] ?_;refine lookQ 3 rfl (by kernel_rfl) (by kernel_rfl) rfl rfl rfl 0 rfl (by kernel_rfl) _ (fun w' hf => look_pm hf 2 hG2.out) ?_
 try simp only [PT]
 refine tQ [4] ?_;refine lookQ 5 rfl (by kernel_rfl) (by kernel_rfl) rfl rfl rfl 0 rfl (by kernel_rfl) _ (fun w' hf => look_pm hf 4 hG4.out) ?_
 try simp only [PT]
 refine tQ [6, 7, 8] ?_;refine dQ (hKQ.out _ _ ?_);clear hKQ KQ;have s0 : w1.drew.cell? ⟨w.heap.size, 0, none⟩ = some (.int .i64 win) := hbox.out.cell 0
 have s1 : w1.drew.cell? ⟨w.heap.size, 1, none⟩ = some (.int .i64 room) := hbox.out.cell 1
 have s2 : w1.drew.cell? ⟨w.heap.size, 2, none⟩ = some (.int .i64 most) := hbox.out.cell 2
 have s3 : w1.drew.cell? ⟨w.heap.size, 3, none⟩ = some (.int .i64 subs) := hbox.out.cell 3
 go_wp2_with fail
 refine (in_New most w1.drew hm.1 hm.2).mono ?_
 rintro e w2 ⟨rfl, hin, hb2⟩
 have hin := hid hin;have hb2 := hid hb2;have hpm2 := hid (hpm.out.map.below (w' := w2) ⟨hb2.out.os, hb2.out.tape, hb2.out.output, hb2.out.size, hb2.out.block⟩)
 have HL3 := look_pm hpm2.out 3 hG3.out
 have hbox2 := hid (hbox.out.drew.below hb2.out)
 clear s0 s1 s2 s3;have t0 : w2.cell? ⟨w.heap.size, 0, none⟩ = some (.int .i64 win) := hbox2.out.cell 0
 have t1 : w2.cell? ⟨w.heap.size, 1, none⟩ = some (.int .i64 room) := hbox2.out.cell 1
 have t3 : w2.cell? ⟨w.heap.size, 3, none⟩ = some (.int .i64 subs) := hbox2.out.cell 3
 go_wp2_with fail
 clear HL3 t0 t1 t3;have hrow2 : Hid (w2.rangeAt g1 0 (sessV client 0 1).cl) := hid (range_below2 hrow1.out hg1l.out.2 hb2.out)
 have hB1 := hid ((HB.out (.cells #[.int .i64 win, .int .i64 room, .int .i64 most, .int .i64 subs] 59)).trans (hb1.out.mono (by simp)))
 have hB2 := hid (hB1.out.drew.trans (hb2.out.mono (by have := hB1.out.size; exact this)))
 have hT2 := hid (hT.below hB2.out.drew)
 refine regionQ [(1000, fun w' => w'.cell? ⟨w.heap.size, 0, none⟩ = some (.int .i64 win)), (1000, fun w' => w'.cell? ⟨w.heap.size, 1, none⟩ = some (.int .i64 room)), (1000, fun w' => w'.rangeAt g1 0 (sessV client 0 1).cl), (9, fun w' => IM .i64 w' m G)] (by kernel_rfl) ⟨hbox2.out.cell 0, hbox2.out.cell 1, hrow2.out, hpm2.out, trivial⟩ fun KQ hKQ => ?_
 try simp only [PT]
 refine tQ [0] ?_;refine lQ 1 0 ?_;refine tQ [2] ?_;refine lQ 3 1 ?_;refine tQ [4, 5] ?_;refine lR 6 2 rfl rfl rfl rfl (v := .agg ((sessV client 0 1).cl : List Value).toArray) (fun w' hf => run_loadAt_mid w' _ _ 33 ((sessV client 0 1).cl : List Value) _ hf Tryz.underlying33 rfl (by kernel_rfl)) ?_
 simp only [PT];refine tQ [7] ?_;refine lookQ 8 rfl (by kernel_rfl) (by kernel_rfl) rfl rfl rfl 3 rfl (by kernel_rfl) _ (fun w' hf => look_pm hf 3 hG3.out) ?_
 try simp only [PT]
 refine sQ 9 fun K hK => ?_;simp only [GO];go_simp;refine (out_Of win room client 0 1 w2.drew hT2.out hw hr (by decide) (by decide) hc hmay).mono ?_
 rintro e w3 ⟨L, rfl, hO, hN, hS3⟩
 have hO := hid hO;have hN := hid hN;have hF3 := hid (fun x hx => (hS3.sub x hx).resolve_left (by simp))
 have hB3 : Hid (Below w2.drew.heap.size w2.drew w3) := hid (hS3.wrote.below (Nat.le_refl _) (by simp))
 clear hS3;have hbox3 := hid (hbox2.out.drew.below hB3.out)
 refine hK _ _ ⟨⟨fun _ => hbox3.out.cell 0, fun _ => hbox3.out.cell 1, fun _ => range_below2 hrow2.out (by have := hg1l.out.2; have := hb2.out.size; simp at this; omega) hB3.out, fun h => absurd (show true = false from h) (by decide), trivial⟩, ?_⟩
 clear hK K;try simp only [PT]
 refine tQ [10, 11, 12, 13, 14] ?_;refine dQ (hKQ.out _ _ ?_);clear hKQ KQ;have t0 : w3.cell? ⟨w.heap.size, 0, none⟩ = some (.int .i64 win) := hbox3.out.cell 0
 have t1 : w3.cell? ⟨w.heap.size, 1, none⟩ = some (.int .i64 room) := hbox3.out.cell 1
 have t2 : w3.cell? ⟨w.heap.size, 2, none⟩ = some (.int .i64 most) := hbox3.out.cell 2
 have t3 : w3.cell? ⟨w.heap.size, 3, none⟩ = some (.int .i64 subs) := hbox3.out.cell 3
 have hmm := @run_makeMap Tryz.prog
 go_wp2_with fail
 obtain ⟨w4, hw4⟩ : ∃ W, W = ((w3.alloc (.map #[] 0)).alloc (.cells #[.pointer (some ⟨L.p, 0, none⟩), .int .i64 win, .int .i64 room, .int .i64 most, .int .i64 subs, .pointer (some ⟨w1.heap.size + 1, 0, none⟩), .map (some w3.heap.size), .bool false, .bool false, .int .i64 0, .int .i64 0, .pointer none] 132)).alloc (.cells #[.slice none 0 0, .slice none 0 0] 34) := ⟨_, rfl⟩
 have hsz4 : w4.heap.size = w3.heap.size + 3 := by rw [hw4]; simp
 have hB4 : Below w3.heap.size w3 w4 := by
  rw [hw4]
  exact belw
 have hmap4 : WM w4 w3.heap.size [] := by rw [hw4]; exact ((WM.new w3).alloc _).alloc _
 have hses4 : Blk w4 (w3.heap.size + 1) #[.pointer (some ⟨L.p, 0, none⟩), .int .i64 win, .int .i64 room, .int .i64 most, .int .i64 subs, .pointer (some ⟨w1.heap.size + 1, 0, none⟩), .map (some w3.heap.size), .bool false, .bool false, .int .i64 0, .int .i64 0, .pointer none] 132 := by
  rw [hw4]; exact (Blk.new_at _ _ _ _ (by simp)).alloc _
 have hsl4 : Blk w4 (w3.heap.size + 2) #[.slice none 0 0, .slice none 0 0] 34 := by rw [hw4]; exact Blk.new_at _ _ _ _ (by simp)
 rw [<- hw4]
 clear hw4 t0 t1 t2 t3;have q6 : w4.cell? ⟨w3.heap.size + 1, 6, none⟩ = some (.map (some w3.heap.size)) := hses4.cell 6
 have HLen := run_len_text (P := Tryz.prog) 83 9 3 Tryz.underlying83 hmap4 3
 have hmap4 := hid hmap4;have hses4 := hid hses4;have hB4 := hid hB4;refine (concat_nil _ _ hsl4).mono ?_
 rintro e w5 ⟨rfl, rfl⟩
 go_wp2_with fail
 go_loopw [101] (fun i wr => i = .int .i64 0 /\ w4 = wr) (fun _ _ => 0)
 case atStart => exact ⟨rfl, rfl⟩
 case round =>
  obtain ⟨rfl, rfl⟩ := hrel
  go_wp2
  go_loopw [120] (fun i wr => i = .int .i64 0 /\ w4 = wr) (fun _ _ => 0)
  case atStart => exact ⟨rfl, rfl⟩
  case round =>
   obtain ⟨rfl, rfl⟩ := hrel
   go_wp2
   go_loopw [135] (fun i wr => i = .int .i64 0 /\ w4 = wr) (fun _ _ => 0)
   case atStart => exact ⟨rfl, rfl⟩
   case round =>
    obtain ⟨rfl, rfl⟩ := hrel
    go_wp2
    try simp only [Exit.noGoto_ret]
    go_returns
    have hsz1 := hB1.out.size
    have hl2 : w1.heap.size + 1 < w2.heap.size := hin.out.box.lt
    have hsz3 : w2.heap.size <= w3.heap.size := hB3.out.size
    have hg := hT.lt
    have hO4 := ob_rebase2 (hO.out.below hB4.out) hN.out
    have hin4 := (hin.out.below (Below.refl _ w2).drew).below (hB3.out.trans (hB4.out.mono hsz3))
    refine ⟨⟨w3.heap.size + 1, L, w1.heap.size + 1, w1.heap.size, w3.heap.size, none, fun _ => 0⟩, rfl, ⟨hses4.out, hO4, hN.out, hin4, SetIs.nil, hmap4.out, trivial, ?_, ?_, ?_, ?_⟩, ⟨?_, ?_⟩⟩
    ·intro b hb hf
     have h1 := hF3.out b hf
     have h2 := hO.out.lt b hf
     simp only [World.size_drew] at h1
     simp only [XLay.own, Option.toList_none, List.mem_cons, List.not_mem_nil, or_false] at hb
     omega
    ·simp only [XLay.own, Option.toList_none, List.nodup_cons, List.mem_cons, List.not_mem_nil, or_false, not_or, List.nodup_nil, and_true, not_false_eq_true]
     omega
    ·simp only [XLay.own, Option.toList_none, List.mem_cons, List.not_mem_nil, or_false, not_or]
     have hg := hT.lt
     have hsz2 := hB2.out.size
     refine ⟨?_, ?_, ?_, ?_⟩ <;> omega
    ·exact ⟨hm, hs, by simp [XS.new], by simp [XS.new]; omega, by simp [XS.new]; omega, by simp [XS.new]⟩
    ·exact Wrote.of_below (hB2.out.trans (((Below.refl _ w2).drew.trans (hB3.out.trans (hB4.out.mono hsz3))).mono hB2.out.size))
    ·intro b hb
     right
     simp only [XLay.foot, XLay.own, Option.toList_none, List.cons_append, List.nil_append, List.mem_cons] at hb
     have hsz2 := hB2.out.size
     rcases hb with hb | hb | hb | hb | hb
     ·omega
     ·omega
     ·omega
     ·omega
     ·have h1 := hF3.out b hb
      simp only [World.size_drew] at h1
      omega
theorem ses_New (win room most subs : Int) (client : List UInt8) (w : World) (hT : TzAt w)
  (hw : 1 <= win /\ win <= 100) (hr : 1 <= room /\ room <= 1000) (hm : 1 <= most /\ most <= 1000) (hs : 1 <= subs /\ subs <= 100) (hc : client.length <= 23) (hmay : sessMay (sessV client 0 1) = true) :
  Calls Tryz.prog 19 #[.agg #[.int .i64 win, .int .i64 room, .int .i64 most, .int .i64 subs], .string ⟨client.toArray⟩] w fun e w' => ∃ S, e = .returned (.tuple #[.pointer (some ⟨S.p, 0, none⟩), .int .i64 0]) /\
   XB w' w'.heap.size S (XS.new win room most subs client) /\ Stp [] S.foot w w' := by
 have hB : Below w.heap.size w ((w.alloc (.cells #[.int .i64 win, .int .i64 room, .int .i64 most, .int .i64 subs] 59)).alloc (.cells (sessV client 0 1).vals 33)) := by
  exact belw
 have hRow : RowsAt ((w.alloc (.cells #[.int .i64 win, .int .i64 room, .int .i64 most, .int .i64 subs] 59)).alloc (.cells (sessV client 0 1).vals 33)) w.heap.size (.slice (some ⟨w.heap.size + 1, 0, none⟩) 1 1) [sessV client 0 1] :=
  ⟨by simp [RowV.cllen], .inr ⟨w.heap.size + 1, 1, (sessV client 0 1).vals, rfl, by omega, Blk.new_at _ _ _ _ (by simp), by simp, by decide, by simp [RowV.vals], by simp [RowV.cl, RowV.vals]⟩⟩
 have CO := hid (ses_Of_new win room most subs client w.heap.size (w.heap.size + 1) _ (hT.below hB) hRow hw hr hm hs hc hmay)
 replace hB := hid hB;clear hRow hmay;unfold sessV RowV.vals at *
 go_enter Tryz.func19, Tryz.ntmps19
 go_wp2_with (go_at_call 37; refine CO.out.mono ?_; rintro e w1 ⟨S, rfl, hX, hS⟩)
 go_returns
 exact ⟨S, rfl, hX, (Stp.below hB.out).trans hS⟩
end
section
def subMay (r : RowV) : Bool := clientR r.client && filterR r.topic && (decide (0 <= r.qos) && decide (r.qos <= 2))
def subHas (r : RowV) : RowV := ⟨0, r.client, 0, 0, r.topic, [], r.qos, false, 0⟩
def inMay (r : RowV) : Bool := clientR r.client && (decide (1 <= r.id) && decide (r.id <= 65535))
def inHas (r : RowV) : RowV := ⟨0, r.client, 0, r.id, [], [], 0, false, 0⟩
theorem kinds4 (r : RowV) (w : World) (hc : r.client.length <= 1000000) (ht : r.topic.length <= 1000000) :
  Calls Tryz.prog 155 #[.agg r.vals] w fun e w' => e = .returned (.bool (subMay r)) /\ Below w.heap.size w w' := by
 obtain ⟨kind, client, seq, id, topic, body, qos, retain, stage⟩ := r
 simp only at hc ht
 obtain ⟨bc, hbc⟩ : ∃ b, clientR client = b := ⟨_, rfl⟩
 obtain ⟨bs, hbs⟩ : ∃ b, filterR topic = b := ⟨_, rfl⟩
 obtain ⟨bi, hbi⟩ : ∃ b, (decide (0 <= qos) && decide (qos <= 2)) = b := ⟨_, rfl⟩
 have HP := hid (show subMay ⟨kind, client, seq, id, topic, body, qos, retain, stage⟩ = (bc && bs && bi) by unfold subMay; simp only; rw [hbc, hbs, hbi])
 have CC := fun w => rec_client client w (by omega)
 rw [hbc] at CC
 have CF := fun w => topic_Filter topic w ht
 rw [hbs] at CF
 have HCC := hid CC;have HCS := hid CF;have HCI := hid (rec_within_b _ _ _ _ hbi)
 clear CC CF hbc hbs hbi hc ht;unfold RowV.vals
 have K : bc = false \/ (bc = true /\ bs = false) \/ (bc = true /\ bs = true /\ bi = false) \/ (bc = true /\ bs = true /\ bi = true) := by
  cases bc <;> cases bs <;> cases bi <;> simp
 rcases K with rfl | ⟨rfl, rfl⟩ | ⟨rfl, rfl, rfl⟩ | ⟨rfl, rfl, rfl⟩
 all_goals
  go_enter Tryz.func155, Tryz.ntmps155
  go_wp2_with (first
   | (go_at_call 150; refine (HCC.out _).mono ?_; rintro e w1 ⟨rfl, hb⟩; have hbz := below_pop hb; have c4 := cellB hb (j := 4) rfl)
   | (go_at_call 70; refine (HCS.out _).mono ?_; rintro e w2 ⟨rfl, hb2⟩; replace hbz := hbz.trans (hb2.mono hbz.size); replace hb := hb.trans (hb2.mono hb.size); have c6 := cellB hb (j := 6) rfl)
   | (go_at_call 151; refine (HCI.out _).mono ?_; rintro e w3 ⟨rfl, rfl⟩))
  go_ret
  exact ⟨by rw [HP.out]; rfl, hbz⟩
theorem kinds5 (r : RowV) (w : World) :
  Calls Tryz.prog 156 #[.agg r.vals] w fun e w' => e = .returned (.agg (subHas r).vals) /\ Below w.heap.size w w' := by
 unfold RowV.vals subHas
 go_enter Tryz.func156, Tryz.ntmps156
 go_wp2
 go_returns
 exact ⟨rfl, ((Below.refl w.heap.size w).alloc (Nat.le_refl _) _).alloc (by simp) _⟩
theorem kinds10 (r : RowV) (w : World) (hc : r.client.length <= 1000000) :
  Calls Tryz.prog 163 #[.agg r.vals] w fun e w' => e = .returned (.bool (inMay r)) /\ Below w.heap.size w w' := by
 obtain ⟨kind, client, seq, id, topic, body, qos, retain, stage⟩ := r
 simp only at hc
 obtain ⟨bc, hbc⟩ : ∃ b, clientR client = b := ⟨_, rfl⟩
 obtain ⟨bi, hbi⟩ : ∃ b, (decide (1 <= id) && decide (id <= 65535)) = b := ⟨_, rfl⟩
 have HP := hid (show inMay ⟨kind, client, seq, id, topic, body, qos, retain, stage⟩ = (bc && bi) by unfold inMay; simp only; rw [hbc, hbi])
 have CC := fun w => rec_client client w (by omega)
 rw [hbc] at CC
 have HCC := hid CC;have HCI := hid (rec_within_b _ _ _ _ hbi)
 clear CC hbc hbi hc;unfold RowV.vals
 have K : bc = false \/ (bc = true /\ bi = false) \/ (bc = true /\ bi = true) := by
  cases bc <;> cases bi <;> simp
 rcases K with rfl | ⟨rfl, rfl⟩ | ⟨rfl, rfl⟩
 all_goals
  go_enter Tryz.func163, Tryz.ntmps163
  go_wp2_with (first
   | (go_at_call 150; refine (HCC.out _).mono ?_; rintro e w1 ⟨rfl, hb⟩; have c3 := cellB hb (j := 3) rfl)
   | (go_at_call 151; refine (HCI.out _).mono ?_; rintro e w3 ⟨rfl, rfl⟩))
  go_ret
  exact ⟨by rw [HP.out]; rfl, below_pop hb⟩
theorem kinds11 (r : RowV) (w : World) :
  Calls Tryz.prog 164 #[.agg r.vals] w fun e w' => e = .returned (.agg (inHas r).vals) /\ Below w.heap.size w w' := by
 unfold RowV.vals inHas
 go_enter Tryz.func164, Tryz.ntmps164
 go_wp2
 go_returns
 exact ⟨rfl, ((Below.refl w.heap.size w).alloc (Nat.le_refl _) _).alloc (by simp) _⟩
theorem rec_Check_sub (client topic : List UInt8) (qos : Int) (w : World) (hc : client.length <= 1000000) (ht : topic.length <= 1000000) :
  Calls Tryz.prog 53 #[.agg (RowV.mk 2 client 0 0 topic [] qos false 0).vals] w fun e w' => e = .returned (.int .i64 (if subMay ⟨2, client, 0, 0, topic, [], qos, false, 0⟩ then 0 else 2)) /\ Below w.heap.size w w' := by
 have C7 := hid fun w => kinds4 ⟨2, client, 0, 0, topic, [], qos, false, 0⟩ w hc ht
 have C8 := hid fun w => kinds5 ⟨2, client, 0, 0, topic, [], qos, false, 0⟩ w
 have CK := hid rec_kinds;clear hc ht;obtain ⟨bm, hbm⟩ : ∃ b, subMay ⟨2, client, 0, 0, topic, [], qos, false, 0⟩ = b := ⟨_, rfl⟩
 rw [hbm] at C7 ⊢
 clear hbm;unfold subHas at C8
 unfold RowV.vals at *
 go_enter Tryz.func53, Tryz.ntmps53
 go_wp2
 refine regionQ [(1000, fun w' => w'.cell? ⟨w.heap.size, 0, none⟩ = some (.int .i64 2))] (by kernel_rfl) ⟨by go_simp, trivial⟩ fun KQ hKQ => ?_
 refine tQ [1] ?_;refine lQ 2 0 ?_;refine stepQ2 0 7 rfl rfl (by kernel_rfl) (by decide) (by kernel_rfl) (by kernel_rfl) (fun K hK => ?_) (fun K hK => ?_)
 ·try simp only [GO]
  go_simp;refine (CK.out _).mono ?_
  rintro e w1 ⟨rfl, hm, hb⟩
  replace hb := undrew hb
  replace hm : w1.heap[w.heap.size + 1]? = some (.map kindsE 5) := by simpa using hm
  have hlt : w.heap.size + 1 < w1.heap.size := by
   rcases Nat.lt_or_ge (w.heap.size + 1) w1.heap.size with h | h
   ·exact h
   ·rw [Array.getElem?_eq_none h] at hm; cases hm
  have hm' : ∀ o, (w1.alloc o).heap[w.heap.size + 1]? = some (.map kindsE 5) := fun o => (Below.heap_alloc _ _ _ hlt).trans hm
  have HL' := fun o => run_lookup_at (P := Tryz.prog) 189 30 187 .i64 Tryz.underlying189 Tryz.underlying30 _ _ kindsE 5 (hm' o) 2 _ 1 rfl true
  have HL := run_lookup_at (P := Tryz.prog) 189 30 187 .i64 Tryz.underlying189 Tryz.underlying30 _ _ kindsE 5 hm 2 _ 1 rfl true
  simp only [kindV] at HL HL'
  refine hK _ _ ⟨⟨fun _ => cellB hb (j := 0) rfl, trivial⟩, ?_⟩
  clear hK K;refine stepQ2 3 7 rfl rfl (by kernel_rfl) (by decide) (by kernel_rfl) (by kernel_rfl) (fun K hK => ?_) (fun K hK => ?_)
  ·try simp only [GO]
   go_simp;refine hK _ _ ⟨⟨fun _ => cellB hb (j := 0) rfl, trivial⟩, ?_⟩
   clear hK K;refine tQ [4, 5, 6] ?_;refine sQ 7 fun K hK => ?_;simp only [GO];go_simp;refine hK _ _ ⟨⟨fun _ => cellB (hb.alloc hb.size _) (j := 0) rfl, trivial⟩, ?_⟩
   clear hK K;refine sQ 8 fun K hK => ?_;simp only [GO];go_simp;refine hK _ _ ⟨⟨fun _ => cellB (hb.alloc hb.size _) (j := 0) rfl, trivial⟩, ?_⟩
   clear hK K;refine sQ 9 fun K hK => ?_;simp only [GO];go_simp;refine hK _ _ ⟨⟨fun _ => cellB (hb.alloc hb.size _) (j := 0) rfl, trivial⟩, ?_⟩
   clear hK K;refine dQ (hKQ.out _ _ ?_);clear hKQ KQ;have g0 := cB hb 0 rfl
   have g1 := cB hb 1 rfl
   have g2 := cB hb 2 rfl
   have g3 := cB hb 3 rfl
   have g4 := cB hb 4 rfl
   have g5 := cB hb 5 rfl
   have g6 := cB hb 6 rfl
   have g7 := cB hb 7 rfl
   have g8 := cB hb 8 rfl
   cases bm
   ·go_wp2_with (go_at_call 155; refine (C7.out _).mono ?_; rintro e w2 ⟨rfl, hb2⟩; replace hb2 := (hb.alloc hb.size _).trans (hb2.mono (hb.alloc hb.size _).size))
    go_ret
    exact ⟨rfl, ((Below.refl w.heap.size w).alloc (Nat.le_refl _) _).trans (hb2.mono (by simp))⟩
   ·go_wp2_with (first
     | (go_at_call 155; refine (C7.out _).mono ?_; rintro e w2 ⟨rfl, hb2⟩; have f2 := cellB (w := w1) hb2 (j := 2) rfl; replace hb2 := (hb.alloc hb.size _).trans (hb2.mono (hb.alloc hb.size _).size)
        have g0 := cellB hb2 (j := 0) rfl
        have g1 := cellB hb2 (j := 1) rfl
        have g2 := cellB hb2 (j := 2) rfl
        have g3 := cellB hb2 (j := 3) rfl
        have g4 := cellB hb2 (j := 4) rfl
        have g5 := cellB hb2 (j := 5) rfl
        have g6 := cellB hb2 (j := 6) rfl
        have g7 := cellB hb2 (j := 7) rfl
        have g8 := cellB hb2 (j := 8) rfl
      )
     | (go_at_call 156; refine (C8.out _).mono ?_; rintro e w3 ⟨rfl, hb3⟩; replace hb3 := hb2.trans (hb3.mono hb2.size)
        have g0 := cB hb3 0 rfl
        have g1 := cB hb3 1 rfl
        have g2 := cB hb3 2 rfl
        have g3 := cB hb3 3 rfl
        have g4 := cB hb3 4 rfl
        have g5 := cB hb3 5 rfl
        have g6 := cB hb3 6 rfl
        have g7 := cB hb3 7 rfl
        have g8 := cB hb3 8 rfl
      ))
    go_ret
    exact ⟨rfl, (((Below.refl w.heap.size w).alloc (Nat.le_refl _) _).trans (hb3.mono (by simp))).alloc (by have := hb3.size; simp at this; omega) _⟩
  ·try simp only [GO]
   go_simp;refine hK _ _ ⟨⟨fun _ => cellB (hb.alloc hb.size _) (j := 0) rfl, trivial⟩, ?_⟩
   clear hK K;refine sQ 3 fun K hK => ?_;simp only [GO];go_simp;refine hK _ _ ⟨⟨fun _ => cellB (hb.alloc hb.size _) (j := 0) rfl, trivial⟩, ?_⟩
   clear hK K;refine tQ [4, 5, 6] ?_;refine sQ 8 fun K hK => ?_;simp only [GO];go_simp;refine hK _ _ ⟨⟨fun _ => cellB (hb.alloc hb.size _) (j := 0) rfl, trivial⟩, ?_⟩
   clear hK K;refine sQ 9 fun K hK => ?_;simp only [GO];go_simp;refine hK _ _ ⟨⟨fun _ => cellB (hb.alloc hb.size _) (j := 0) rfl, trivial⟩, ?_⟩
   clear hK K;refine dQ (hKQ.out _ _ ?_);clear hKQ KQ;have g0 := cB hb 0 rfl
   have g1 := cB hb 1 rfl
   have g2 := cB hb 2 rfl
   have g3 := cB hb 3 rfl
   have g4 := cB hb 4 rfl
   have g5 := cB hb 5 rfl
   have g6 := cB hb 6 rfl
   have g7 := cB hb 7 rfl
   have g8 := cB hb 8 rfl
   cases bm
   ·go_wp2_with (go_at_call 155; refine (C7.out _).mono ?_; rintro e w2 ⟨rfl, hb2⟩; replace hb2 := (hb.alloc hb.size _).trans (hb2.mono (hb.alloc hb.size _).size))
    go_ret
    exact ⟨rfl, ((Below.refl w.heap.size w).alloc (Nat.le_refl _) _).trans (hb2.mono (by simp))⟩
   ·go_wp2_with (first
     | (go_at_call 155; refine (C7.out _).mono ?_; rintro e w2 ⟨rfl, hb2⟩; have f2 := cellB (w := w1) hb2 (j := 2) rfl; replace hb2 := (hb.alloc hb.size _).trans (hb2.mono (hb.alloc hb.size _).size)
        have g0 := cellB hb2 (j := 0) rfl
        have g1 := cellB hb2 (j := 1) rfl
        have g2 := cellB hb2 (j := 2) rfl
        have g3 := cellB hb2 (j := 3) rfl
        have g4 := cellB hb2 (j := 4) rfl
        have g5 := cellB hb2 (j := 5) rfl
        have g6 := cellB hb2 (j := 6) rfl
        have g7 := cellB hb2 (j := 7) rfl
        have g8 := cellB hb2 (j := 8) rfl
      )
     | (go_at_call 156; refine (C8.out _).mono ?_; rintro e w3 ⟨rfl, hb3⟩; replace hb3 := hb2.trans (hb3.mono hb2.size)
        have g0 := cB hb3 0 rfl
        have g1 := cB hb3 1 rfl
        have g2 := cB hb3 2 rfl
        have g3 := cB hb3 3 rfl
        have g4 := cB hb3 4 rfl
        have g5 := cB hb3 5 rfl
        have g6 := cB hb3 6 rfl
        have g7 := cB hb3 7 rfl
        have g8 := cB hb3 8 rfl
      ))
    go_ret
    exact ⟨rfl, (((Below.refl w.heap.size w).alloc (Nat.le_refl _) _).trans (hb3.mono (by simp))).alloc (by have := hb3.size; simp at this; omega) _⟩
 ·try simp only [GO]
  go_simp;refine hK _ _ ⟨⟨fun _ => by go_simp, trivial⟩, ?_⟩
  clear hK K;refine sQ 0 fun K hK => ?_;simp only [GO];go_simp;refine (CK.out _).mono ?_
  rintro e w1 ⟨rfl, hm, hb⟩
  replace hb := undrew hb
  have hbr := below_pop hb
  have k0 := cellB hb (j := 0) rfl
  have k1 := cellB hb (j := 1) rfl
  have k2 := cellB hb (j := 2) rfl
  have k3 := cellB hb (j := 3) rfl
  have k4 := cellB hb (j := 4) rfl
  replace hm : w1.heap[w.heap.size + 2]? = some (.map kindsE 5) := by simpa using hm
  have HL := run_lookup_at (P := Tryz.prog) 189 30 187 .i64 Tryz.underlying189 Tryz.underlying30 _ _ kindsE 5 hm 2 _ 1 rfl true
  simp only [kindV] at HL
  refine hK _ _ ⟨⟨fun _ => cellB hbr (j := 0) rfl, trivial⟩, ?_⟩
  clear hK K;refine sQ 3 fun K hK => ?_;simp only [GO];go_simp;refine hK _ _ ⟨⟨fun _ => cellB hbr (j := 0) rfl, trivial⟩, ?_⟩
  clear hK K;refine tQ [4, 5, 6] ?_;refine sQ 8 fun K hK => ?_;simp only [GO];have z0 := frozenB hb 0
  have z1 := frozenB hb 1
  have z2 := frozenB hb 2
  have z3 := frozenB hb 3
  have z4 := frozenB hb 4
  simp only [World.size_alloc] at k0 k1 k2 k3 k4 z0 z1 z2 z3 z4
  go_simp;have hbs := fun v0 v1 v2 v3 v4 => (((((hbr.setCell (p := ⟨w.heap.size + 1, 0, none⟩) (by simp) v0).setCell (p := ⟨w.heap.size + 1, 1, none⟩) (by simp) v1).setCell (p := ⟨w.heap.size + 1, 2, none⟩) (by simp) v2).setCell (p := ⟨w.heap.size + 1, 3, none⟩) (by simp) v3).setCell (p := ⟨w.heap.size + 1, 4, none⟩) (by simp) v4)
  refine hK _ _ ⟨⟨fun _ => cellB (hbs _ _ _ _ _) (j := 0) rfl, trivial⟩, ?_⟩
  clear hK K;refine atR_gen (fun w' => Below (w.alloc (.cells #[.int .i64 2, .string ⟨client.toArray⟩, .int .i64 0, .int .i64 0, .string ⟨topic.toArray⟩, .string ⟨#[]⟩, .int .i64 qos, .bool false, .int .i64 0] 33)).heap.size (w.alloc (.cells #[.int .i64 2, .string ⟨client.toArray⟩, .int .i64 0, .int .i64 0, .string ⟨topic.toArray⟩, .string ⟨#[]⟩, .int .i64 qos, .bool false, .int .i64 0] 33)) w' /\ w'.cell? ⟨w.heap.size + 1, 1, none⟩ = some (.func (.func 155) #[] #[]) /\ w'.cell? ⟨w.heap.size + 1, 2, none⟩ = some (.func (.func 156) #[] #[]) /\ w.heap.size + 1 < w'.heap.size) ⟨hbs _ _ _ _ _, by go_simp, by go_simp, by have := hb.size; simp at this ⊢; omega⟩ fun w2 ⟨hb, f1, f2, hlt⟩ => ?_
  refine sQ 9 fun K hK => ?_;simp only [GO];go_simp;refine hK _ _ ⟨⟨fun _ => cellB hb (j := 0) rfl, trivial⟩, ?_⟩
  clear hK K;refine dQ (hKQ.out _ _ ?_);clear hKQ KQ;have g0 := cellB hb (j := 0) rfl
  have g1 := cellB hb (j := 1) rfl
  have g2 := cellB hb (j := 2) rfl
  have g3 := cellB hb (j := 3) rfl
  have g4 := cellB hb (j := 4) rfl
  have g5 := cellB hb (j := 5) rfl
  have g6 := cellB hb (j := 6) rfl
  have g7 := cellB hb (j := 7) rfl
  have g8 := cellB hb (j := 8) rfl
  cases bm
  ·go_wp2_with (go_at_call 155; refine (C7.out _).mono ?_; rintro e w3 ⟨rfl, hb2⟩; replace hb2 := hb.trans (hb2.mono hb.size))
   go_ret
   exact ⟨rfl, below_pop hb2⟩
  ·go_wp2_with (first
    | (go_at_call 155; refine (C7.out _).mono ?_; rintro e w3 ⟨rfl, hb3⟩; have f3 := (hb3.cell (p := ⟨w.heap.size + 1, 2, none⟩) hlt).trans f2; replace hb3 := hb.trans (hb3.mono hb.size)
       have g0 := cellB hb3 (j := 0) rfl
       have g1 := cellB hb3 (j := 1) rfl
       have g2 := cellB hb3 (j := 2) rfl
       have g3 := cellB hb3 (j := 3) rfl
       have g4 := cellB hb3 (j := 4) rfl
       have g5 := cellB hb3 (j := 5) rfl
       have g6 := cellB hb3 (j := 6) rfl
       have g7 := cellB hb3 (j := 7) rfl
       have g8 := cellB hb3 (j := 8) rfl
     )
    | (go_at_call 156; refine (C8.out _).mono ?_; rintro e w4 ⟨rfl, hb4⟩; replace hb4 := hb3.trans (hb4.mono hb3.size)
       have g0 := cB hb4 0 rfl
       have g1 := cB hb4 1 rfl
       have g2 := cB hb4 2 rfl
       have g3 := cB hb4 3 rfl
       have g4 := cB hb4 4 rfl
       have g5 := cB hb4 5 rfl
       have g6 := cB hb4 6 rfl
       have g7 := cB hb4 7 rfl
       have g8 := cB hb4 8 rfl
     ))
   go_ret
   exact ⟨rfl, ((below_pop hb4).alloc (by have := (below_pop hb4).size; omega) _)⟩
theorem rec_Check_in (client : List UInt8) (id : Int) (w : World) (hc : client.length <= 1000000) :
  Calls Tryz.prog 53 #[.agg (RowV.mk 4 client 0 id [] [] 0 false 0).vals] w fun e w' => e = .returned (.int .i64 (if inMay ⟨4, client, 0, id, [], [], 0, false, 0⟩ then 0 else 2)) /\ Below w.heap.size w w' := by
 have C7 := hid fun w => kinds10 ⟨4, client, 0, id, [], [], 0, false, 0⟩ w hc
 have C8 := hid fun w => kinds11 ⟨4, client, 0, id, [], [], 0, false, 0⟩ w
 have CK := hid rec_kinds;clear hc;obtain ⟨bm, hbm⟩ : ∃ b, inMay ⟨4, client, 0, id, [], [], 0, false, 0⟩ = b := ⟨_, rfl⟩
 rw [hbm] at C7 ⊢
 clear hbm;unfold inHas at C8
 unfold RowV.vals at *
 go_enter Tryz.func53, Tryz.ntmps53
 go_wp2
 refine regionQ [(1000, fun w' => w'.cell? ⟨w.heap.size, 0, none⟩ = some (.int .i64 4))] (by kernel_rfl) ⟨by go_simp, trivial⟩ fun KQ hKQ => ?_
 refine tQ [1] ?_;refine lQ 2 0 ?_;refine stepQ2 0 7 rfl rfl (by kernel_rfl) (by decide) (by kernel_rfl) (by kernel_rfl) (fun K hK => ?_) (fun K hK => ?_)
 ·try simp only [GO]
  go_simp;refine (CK.out _).mono ?_
  rintro e w1 ⟨rfl, hm, hb⟩
  replace hb := undrew hb
  replace hm : w1.heap[w.heap.size + 1]? = some (.map kindsE 5) := by simpa using hm
  have hlt : w.heap.size + 1 < w1.heap.size := by
   rcases Nat.lt_or_ge (w.heap.size + 1) w1.heap.size with h | h
   ·exact h
   ·rw [Array.getElem?_eq_none h] at hm; cases hm
  have hm' : ∀ o, (w1.alloc o).heap[w.heap.size + 1]? = some (.map kindsE 5) := fun o => (Below.heap_alloc _ _ _ hlt).trans hm
  have HL' := fun o => run_lookup_at (P := Tryz.prog) 189 30 187 .i64 Tryz.underlying189 Tryz.underlying30 _ _ kindsE 5 (hm' o) 4 _ 3 rfl true
  have HL := run_lookup_at (P := Tryz.prog) 189 30 187 .i64 Tryz.underlying189 Tryz.underlying30 _ _ kindsE 5 hm 4 _ 3 rfl true
  simp only [kindV] at HL HL'
  refine hK _ _ ⟨⟨fun _ => cellB hb (j := 0) rfl, trivial⟩, ?_⟩
  clear hK K;refine stepQ2 3 7 rfl rfl (by kernel_rfl) (by decide) (by kernel_rfl) (by kernel_rfl) (fun K hK => ?_) (fun K hK => ?_)
  ·try simp only [GO]
   go_simp;refine hK _ _ ⟨⟨fun _ => cellB hb (j := 0) rfl, trivial⟩, ?_⟩
   clear hK K;refine tQ [4, 5, 6] ?_;refine sQ 7 fun K hK => ?_;simp only [GO];go_simp;refine hK _ _ ⟨⟨fun _ => cellB (hb.alloc hb.size _) (j := 0) rfl, trivial⟩, ?_⟩
   clear hK K;refine sQ 8 fun K hK => ?_;simp only [GO];go_simp;refine hK _ _ ⟨⟨fun _ => cellB (hb.alloc hb.size _) (j := 0) rfl, trivial⟩, ?_⟩
   clear hK K;refine sQ 9 fun K hK => ?_;simp only [GO];go_simp;refine hK _ _ ⟨⟨fun _ => cellB (hb.alloc hb.size _) (j := 0) rfl, trivial⟩, ?_⟩
   clear hK K;refine dQ (hKQ.out _ _ ?_);clear hKQ KQ;have g0 := cB hb 0 rfl
   have g1 := cB hb 1 rfl
   have g2 := cB hb 2 rfl
   have g3 := cB hb 3 rfl
   have g4 := cB hb 4 rfl
   have g5 := cB hb 5 rfl
   have g6 := cB hb 6 rfl
   have g7 := cB hb 7 rfl
   have g8 := cB hb 8 rfl
   cases bm
   ·go_wp2_with (go_at_call 163; refine (C7.out _).mono ?_; rintro e w2 ⟨rfl, hb2⟩; replace hb2 := (hb.alloc hb.size _).trans (hb2.mono (hb.alloc hb.size _).size))
    go_ret
    exact ⟨rfl, ((Below.refl w.heap.size w).alloc (Nat.le_refl _) _).trans (hb2.mono (by simp))⟩
   ·go_wp2_with (first
     | (go_at_call 163; refine (C7.out _).mono ?_; rintro e w2 ⟨rfl, hb2⟩; have f2 := cellB (w := w1) hb2 (j := 2) rfl; replace hb2 := (hb.alloc hb.size _).trans (hb2.mono (hb.alloc hb.size _).size)
        have g0 := cellB hb2 (j := 0) rfl
        have g1 := cellB hb2 (j := 1) rfl
        have g2 := cellB hb2 (j := 2) rfl
        have g3 := cellB hb2 (j := 3) rfl
        have g4 := cellB hb2 (j := 4) rfl
        have g5 := cellB hb2 (j := 5) rfl
        have g6 := cellB hb2 (j := 6) rfl
        have g7 := cellB hb2 (j := 7) rfl
        have g8 := cellB hb2 (j := 8) rfl
      )
     | (go_at_call 164; refine (C8.out _).mono ?_; rintro e w3 ⟨rfl, hb3⟩; replace hb3 := hb2.trans (hb3.mono hb2.size)
        have g0 := cB hb3 0 rfl
        have g1 := cB hb3 1 rfl
        have g2 := cB hb3 2 rfl
        have g3 := cB hb3 3 rfl
        have g4 := cB hb3 4 rfl
        have g5 := cB hb3 5 rfl
        have g6 := cB hb3 6 rfl
        have g7 := cB hb3 7 rfl
        have g8 := cB hb3 8 rfl
      ))
    go_ret
    exact ⟨rfl, (((Below.refl w.heap.size w).alloc (Nat.le_refl _) _).trans (hb3.mono (by simp))).alloc (by have := hb3.size; simp at this; omega) _⟩
  ·try simp only [GO]
   go_simp;refine hK _ _ ⟨⟨fun _ => cellB (hb.alloc hb.size _) (j := 0) rfl, trivial⟩, ?_⟩
   clear hK K;refine sQ 3 fun K hK => ?_;simp only [GO];go_simp;refine hK _ _ ⟨⟨fun _ => cellB (hb.alloc hb.size _) (j := 0) rfl, trivial⟩, ?_⟩
   clear hK K;refine tQ [4, 5, 6] ?_;refine sQ 8 fun K hK => ?_;simp only [GO];go_simp;refine hK _ _ ⟨⟨fun _ => cellB (hb.alloc hb.size _) (j := 0) rfl, trivial⟩, ?_⟩
   clear hK K;refine sQ 9 fun K hK => ?_;simp only [GO];go_simp;refine hK _ _ ⟨⟨fun _ => cellB (hb.alloc hb.size _) (j := 0) rfl, trivial⟩, ?_⟩
   clear hK K;refine dQ (hKQ.out _ _ ?_);clear hKQ KQ;have g0 := cB hb 0 rfl
   have g1 := cB hb 1 rfl
   have g2 := cB hb 2 rfl
   have g3 := cB hb 3 rfl
   have g4 := cB hb 4 rfl
   have g5 := cB hb 5 rfl
   have g6 := cB hb 6 rfl
   have g7 := cB hb 7 rfl
   have g8 := cB hb 8 rfl
   cases bm
   ·go_wp2_with (go_at_call 163; refine (C7.out _).mono ?_; rintro e w2 ⟨rfl, hb2⟩; replace hb2 := (hb.alloc hb.size _).trans (hb2.mono (hb.alloc hb.size _).size))
    go_ret
    exact ⟨rfl, ((Below.refl w.heap.size w).alloc (Nat.le_refl _) _).trans (hb2.mono (by simp))⟩
   ·go_wp2_with (first
     | (go_at_call 163; refine (C7.out _).mono ?_; rintro e w2 ⟨rfl, hb2⟩; have f2 := cellB (w := w1) hb2 (j := 2) rfl; replace hb2 := (hb.alloc hb.size _).trans (hb2.mono (hb.alloc hb.size _).size)
        have g0 := cellB hb2 (j := 0) rfl
        have g1 := cellB hb2 (j := 1) rfl
        have g2 := cellB hb2 (j := 2) rfl
        have g3 := cellB hb2 (j := 3) rfl
        have g4 := cellB hb2 (j := 4) rfl
        have g5 := cellB hb2 (j := 5) rfl
        have g6 := cellB hb2 (j := 6) rfl
        have g7 := cellB hb2 (j := 7) rfl
        have g8 := cellB hb2 (j := 8) rfl
      )
     | (go_at_call 164; refine (C8.out _).mono ?_; rintro e w3 ⟨rfl, hb3⟩; replace hb3 := hb2.trans (hb3.mono hb2.size)
        have g0 := cB hb3 0 rfl
        have g1 := cB hb3 1 rfl
        have g2 := cB hb3 2 rfl
        have g3 := cB hb3 3 rfl
        have g4 := cB hb3 4 rfl
        have g5 := cB hb3 5 rfl
        have g6 := cB hb3 6 rfl
        have g7 := cB hb3 7 rfl
        have g8 := cB hb3 8 rfl
      ))
    go_ret
    exact ⟨rfl, (((Below.refl w.heap.size w).alloc (Nat.le_refl _) _).trans (hb3.mono (by simp))).alloc (by have := hb3.size; simp at this; omega) _⟩
 ·try simp only [GO]
  go_simp;refine hK _ _ ⟨⟨fun _ => by go_simp, trivial⟩, ?_⟩
  clear hK K;refine sQ 0 fun K hK => ?_;simp only [GO];go_simp;refine (CK.out _).mono ?_
  rintro e w1 ⟨rfl, hm, hb⟩
  replace hb := undrew hb
  have hbr := below_pop hb
  have k0 := cellB hb (j := 0) rfl
  have k1 := cellB hb (j := 1) rfl
  have k2 := cellB hb (j := 2) rfl
  have k3 := cellB hb (j := 3) rfl
  have k4 := cellB hb (j := 4) rfl
  replace hm : w1.heap[w.heap.size + 2]? = some (.map kindsE 5) := by simpa using hm
  have HL := run_lookup_at (P := Tryz.prog) 189 30 187 .i64 Tryz.underlying189 Tryz.underlying30 _ _ kindsE 5 hm 4 _ 3 rfl true
  simp only [kindV] at HL
  refine hK _ _ ⟨⟨fun _ => cellB hbr (j := 0) rfl, trivial⟩, ?_⟩
  clear hK K;refine sQ 3 fun K hK => ?_;simp only [GO];go_simp;refine hK _ _ ⟨⟨fun _ => cellB hbr (j := 0) rfl, trivial⟩, ?_⟩
  clear hK K;refine tQ [4, 5, 6] ?_;refine sQ 8 fun K hK => ?_;simp only [GO];have z0 := frozenB hb 0
  have z1 := frozenB hb 1
  have z2 := frozenB hb 2
  have z3 := frozenB hb 3
  have z4 := frozenB hb 4
  simp only [World.size_alloc] at k0 k1 k2 k3 k4 z0 z1 z2 z3 z4
  go_simp;have hbs := fun v0 v1 v2 v3 v4 => (((((hbr.setCell (p := ⟨w.heap.size + 1, 0, none⟩) (by simp) v0).setCell (p := ⟨w.heap.size + 1, 1, none⟩) (by simp) v1).setCell (p := ⟨w.heap.size + 1, 2, none⟩) (by simp) v2).setCell (p := ⟨w.heap.size + 1, 3, none⟩) (by simp) v3).setCell (p := ⟨w.heap.size + 1, 4, none⟩) (by simp) v4)
  refine hK _ _ ⟨⟨fun _ => cellB (hbs _ _ _ _ _) (j := 0) rfl, trivial⟩, ?_⟩
  clear hK K;refine atR_gen (fun w' => Below (w.alloc (.cells #[.int .i64 4, .string ⟨client.toArray⟩, .int .i64 0, .int .i64 id, .string ⟨#[]⟩, .string ⟨#[]⟩, .int .i64 0, .bool false, .int .i64 0] 33)).heap.size (w.alloc (.cells #[.int .i64 4, .string ⟨client.toArray⟩, .int .i64 0, .int .i64 id, .string ⟨#[]⟩, .string ⟨#[]⟩, .int .i64 0, .bool false, .int .i64 0] 33)) w' /\ w'.cell? ⟨w.heap.size + 1, 1, none⟩ = some (.func (.func 163) #[] #[]) /\ w'.cell? ⟨w.heap.size + 1, 2, none⟩ = some (.func (.func 164) #[] #[]) /\ w.heap.size + 1 < w'.heap.size) ⟨hbs _ _ _ _ _, by go_simp, by go_simp, by have := hb.size; simp at this ⊢; omega⟩ fun w2 ⟨hb, f1, f2, hlt⟩ => ?_
  refine sQ 9 fun K hK => ?_;simp only [GO];go_simp;refine hK _ _ ⟨⟨fun _ => cellB hb (j := 0) rfl, trivial⟩, ?_⟩
  clear hK K;refine dQ (hKQ.out _ _ ?_);clear hKQ KQ;have g0 := cellB hb (j := 0) rfl
  have g1 := cellB hb (j := 1) rfl
  have g2 := cellB hb (j := 2) rfl
  have g3 := cellB hb (j := 3) rfl
  have g4 := cellB hb (j := 4) rfl
  have g5 := cellB hb (j := 5) rfl
  have g6 := cellB hb (j := 6) rfl
  have g7 := cellB hb (j := 7) rfl
  have g8 := cellB hb (j := 8) rfl
  cases bm
  ·go_wp2_with (go_at_call 163; refine (C7.out _).mono ?_; rintro e w3 ⟨rfl, hb2⟩; replace hb2 := hb.trans (hb2.mono hb.size))
   go_ret
   exact ⟨rfl, below_pop hb2⟩
  ·go_wp2_with (first
    | (go_at_call 163; refine (C7.out _).mono ?_; rintro e w3 ⟨rfl, hb3⟩; have f3 := (hb3.cell (p := ⟨w.heap.size + 1, 2, none⟩) hlt).trans f2; replace hb3 := hb.trans (hb3.mono hb.size)
       have g0 := cellB hb3 (j := 0) rfl
       have g1 := cellB hb3 (j := 1) rfl
       have g2 := cellB hb3 (j := 2) rfl
       have g3 := cellB hb3 (j := 3) rfl
       have g4 := cellB hb3 (j := 4) rfl
       have g5 := cellB hb3 (j := 5) rfl
       have g6 := cellB hb3 (j := 6) rfl
       have g7 := cellB hb3 (j := 7) rfl
       have g8 := cellB hb3 (j := 8) rfl
     )
    | (go_at_call 164; refine (C8.out _).mono ?_; rintro e w4 ⟨rfl, hb4⟩; replace hb4 := hb3.trans (hb4.mono hb3.size)
       have g0 := cB hb4 0 rfl
       have g1 := cB hb4 1 rfl
       have g2 := cB hb4 2 rfl
       have g3 := cB hb4 3 rfl
       have g4 := cB hb4 4 rfl
       have g5 := cB hb4 5 rfl
       have g6 := cB hb4 6 rfl
       have g7 := cB hb4 7 rfl
       have g8 := cB hb4 8 rfl
     ))
   go_ret
   exact ⟨rfl, ((below_pop hb4).alloc (by have := (below_pop hb4).size; omega) _)⟩
end
end Go.Proofs.YtoinabapaeebfaaGreatDoor
