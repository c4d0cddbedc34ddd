/- Parts of the proof of SessionRows: contracts of functions that it reaches, and plain lemmas. No condition of their own. -/
import Derived.Test.YtoinabapaeebfaaGreatDoorPk40
import Derived.Test.YtoinabapaeebfaaGreatDoorPk25
import Derived.Test.YtoinabapaeebfaaGreatDoorPk39
import Derived.Deep.Cut
import Derived.Test.YtoinabapaeebfaaGreatDoorPk27
set_option linter.unusedSimpArgs false
set_option linter.unusedVariables false
set_option maxRecDepth 100000
set_option maxHeartbeats 8000000
namespace Go.Proofs.YtoinabapaeebfaaGreatDoor
open Go.RowKit Go.Shelf
section
theorem wp_update_text {P : Program} {w : World} {o : Oper} {a : Act} {K : Act -> World -> Prop} {Q : Exit -> Act -> World -> Prop}
  (m x v : Operand) (t : TypeId) (hop : o.op = Op.mapUpdate t m x v) (k e : TypeId) (ht : P.underlying t = some (.map k e)) (hk : P.underlying k = some .string) {b : Nat} {l : WL} (h : WM w b l)
  (hm : a.eval m = .map (some b)) (s : List UInt8) (val : Int) (hx : a.eval x = .string ⟨s.toArray⟩) (hv : a.eval v = .int .i64 val)
  (hK : ∀ w', WM w' b (ins l s val) -> w.grownBy w' (some b) -> K (a.put o.dst undef) w') : o.wp P a w K Q := by
 obtain ⟨w', hrun, h1, h2⟩ := run_insert_text t k e ht hk h s val
 unfold Oper.wp
 simp [execOp, hop, hm, hx, hv, hrun, Result.andThen]
 exact hK _ h1 h2
structure ZI (w0 : World) (m ib sb : Nat) (most : Int) (wl : WL) (il : List Nat) (W : World) (k j : Nat) (Wd : Nat -> Nat) : Prop where
 wr : Wrote [m, sb] w0 W
 map : WM W m (wl.take k)
 inb : Inb W ib sb most Wd
 set : SetIs Wd (il.take j)
theorem take_new {α β : Type} (f : α -> β) {l : List α} (hn : (l.map f).Nodup) {k : Nat} {p : α} (hk : l[k]? = some p) : ∀ q ∈ l.take k, f q ≠ f p := by
 intro q hq he
 obtain ⟨i, hi⟩ := List.getElem?_of_mem hq
 rw [List.getElem?_take] at hi
 split at hi
 ·rename_i hik
  have hl := (List.getElem?_eq_some_iff.1 hi).1
  have h1 : (l.map f)[i]? = (l.map f)[k]? := by rw [List.getElem?_map, List.getElem?_map, hi, hk, Option.map_some, Option.map_some, he]
  have := (List.getElem?_inj (by simpa using hl) hn).1 h1
  omega
 ·cases hi
theorem rows_len {x : XS} {rows : List RowV} (hp : rows.Perm x.bag) : rows.length = 1 + x.o.l.length + x.wants.length + x.ids.length := by
 rw [hp.length_eq]
 simp [XS.bag, XS.side, XS.subs', XS.ins']
 omega
theorem ses_Of_rows {x : XS} {c : List UInt8} {R0 R1 : Int} (hx : PX R0 R1 c x) (hok : x.OK) (hoo : x.o.OK) (hroom : 1 <= x.o.room) (hseq : x.o.seq <= 4611686018427387904) {rows : List RowV} (hp : rows.Perm x.bag)
  (base : Nat) (va : Option Addr) (n vc : Nat) (w : World) (hT : TzAt w) (hn : rows.length = n) (hv : w.ownsRow base 33 9 (.slice va n vc) n (rows.flatMap RowV.cl)) :
  Calls Tryz.prog 37 #[.agg #[.int .i64 x.o.window, .int .i64 x.o.room, .int .i64 x.most, .int .i64 x.subs], .slice va n vc] w fun e w' => ∃ S wl il, e = .returned (.tuple #[.pointer (some ⟨S.p, 0, none⟩), .int .i64 0]) /\
   wl.Perm x.wants /\ il.Perm x.ids /\ XB w' w'.heap.size S (x.fresh wl il) /\ Stp [] S.foot w w' := by
 obtain rfl : x.o.window = R0 := hx.po.wn.win
 obtain rfl : x.o.room = R1 := hx.po.wn.room
 have hbx : ∀ (o : Obj), Below w.heap.size w (w.alloc o) := fun o => (Below.refl _ w).alloc (Nat.le_refl _) o
 have hlen := rows_len hp
 have hl1 := hoo.room
 have hl2 := hok.wants
 have hl3 := hok.under
 have hms := hok.most
 have hsb := hok.subs
 have CP := hid (fun o => ses_parted base (.slice va n vc) rows (w.alloc o) (by unfold RowsAt; rw [hn]; exact ownsRow_below hv (hbx o)) (by omega))
 obtain ⟨win, hwin⟩ : ∃ z, x.o.window = z := ⟨_, rfl⟩
 obtain ⟨room, hrm⟩ : ∃ z, x.o.room = z := ⟨_, rfl⟩
 obtain ⟨most, hmost⟩ : ∃ z, x.most = z := ⟨_, rfl⟩
 obtain ⟨subs, hsubs⟩ : ∃ z, x.subs = z := ⟨_, rfl⟩
 rw [hwin, hrm, hmost, hsubs]
 have d1 : decide (subs < 1) = false := decide_eq_false (by omega)
 have d2 : decide (100 < subs) = false := decide_eq_false (by omega)
 go_enter Tryz.func37, Tryz.ntmps37
 go_wp2_with fail
 refine (CP.out _).mono ?_
 rintro e w1 ⟨m, G, rfl, hpm, hml, hb1⟩
 have hpm := hid hpm;have hb1 := hid hb1;have HB := hid hbx;clear hbx CP;have hk1 : ofKind rows 1 = [x.o.session] := List.perm_singleton.1 (hx.of1 ▸ ofKind_perm hp 1)
 obtain ⟨wl, hwl, hk2⟩ := subs_order (hx.of2 ▸ ofKind_perm hp 2)
 have hk3 : (ofKind rows 3).Perm x.o.l := hx.of3 ▸ ofKind_perm hp 3
 obtain ⟨il, hil, hk4⟩ := ins_order (hx.of4 ▸ ofKind_perm hp 4)
 obtain ⟨R3, hR3⟩ : ∃ l, ofKind rows 3 = l := ⟨_, rfl⟩
 rw [hR3] at hk3
 have q1 := hpm.out.rows 1
 have q2 := hpm.out.rows 2
 have q3 := hpm.out.rows 3
 have q4 := hpm.out.rows 4
 rw [hk1] at q1
 rw [hk2] at q2
 rw [hR3] at q3
 rw [hk4] at q4
 unfold RowsAt at q1 q2 q3 q4
 obtain ⟨a1, c1, hG1⟩ := own_slice q1
 obtain ⟨a2, c2, hG2⟩ := own_slice q2
 obtain ⟨a3, c3, hG3⟩ := own_slice q3
 obtain ⟨a4, c4, hG4⟩ := own_slice q4
 rw [hG1] at q1
 rw [hG2] at q2
 rw [hG3] at q3
 rw [hG4] at q4
 obtain ⟨n2, hn2⟩ : ∃ k, (wl.map fun p => x.sub p.1 p.2).length = k := ⟨_, rfl⟩
 obtain ⟨n3, hn3⟩ : ∃ k, R3.length = k := ⟨_, rfl⟩
 obtain ⟨n4, hn4⟩ : ∃ k, (il.map fun i : Nat => x.inr (i : Int)).length = k := ⟨_, rfl⟩
 rw [hn2] at q2 hG2
 rw [hn3] at q3 hG3
 rw [hn4] at q4 hG4
 have hn2' : n2 = x.wants.length := by rw [<- hn2, List.length_map, hwl.length_eq]
 have hn3' : n3 = x.o.l.length := by rw [<- hn3, hk3.length_eq]
 have hn4' : n4 = x.ids.length := by rw [<- hn4, List.length_map, hil.length_eq]
 have b2 : n2 <= 100 := by omega
 have b3 : n3 <= 1000 := by omega
 have b4 : n4 <= 1000 := by omega
 have bn : n = n3 + n2 + n4 + 1 := by omega
 have d3 : decide (subs < (n2 : Int)) = false := decide_eq_false (by omega)
 obtain ⟨g1, rfl, hcap1, hrow1⟩ := own_range RowV.cl RowV.cllen (l := [x.o.session]) (n := 1) rfl q1 (k := 0) rfl
 have hg1l := hid (q1.lt g1 rfl)
 have hrow1 := hid hrow1;have q1 := hid q1;have q2 := hid q2;have q3 := hid q3;have q4 := hid q4;have hG1 := hid (show (G 1).getD (.slice none 0 0) = .slice (some ⟨g1, 0, none⟩) 1 c1 from hG1)
 have hG2 := hid hG2;have hG3 := hid hG3;have hG4 := hid hG4;have HX := hid hx;have HK := hid hok;have HO := hid hoo;have hp' := hid hp;have hn2 := hid hn2;have hn3 := hid hn3;have hn4 := hid hn4;have hv := hid hv;replace hlen := hid hlen;replace hl1 := hid hl1;replace hl2 := hid hl2;replace hl3 := hid hl3;replace hk1 := hid hk1;replace hk2 := hid hk2;replace hk3 := hid hk3;replace hk4 := hid hk4;replace hR3 := hid hR3;replace hwl := hid hwl;replace hil := hid hil;replace hn2' := hid hn2';replace hn3' := hid hn3';replace hn4' := hid hn4';replace hn := hid hn;replace bn := hid bn;replace hwin := hid hwin;replace hrm := hid hrm;replace hmost := hid hmost;replace hsubs := hid hsubs;have hms' : 1 <= most /\ most <= 1000 := by rw [<- hmost.out]; exact hms
 clear hx hok hoo hp;have hbox := hid ((Blk.new w #[.int .i64 win, .int .i64 room, .int .i64 most, .int .i64 subs] 59).below hb1.out)
 go_wp2_with fail
 refine regionQ [(1000, fun w' => IM .i64 w' m G)] (by kernel_rfl) ⟨hpm.out.map.below ((Below.refl _ _).drew), trivial⟩ fun KQ hKQ => ?_
 try simp only [PT]
 refine tQ [0] ?_;refine lookQ 1 rfl (by kernel_rfl) (by kernel_rfl) rfl rfl rfl 0 rfl (by kernel_rfl) _ (fun w' hf => look_pm hf 1 hG1.out) ?_
 try simp only [PT]
 refine tQ [2] ?_;refine lookQ 3 rfl (by kernel_rfl) (by kernel_rfl) rfl rfl rfl 0 rfl (by kernel_rfl) _ (fun w' hf => look_pm hf 2 hG2.out) ?_
 try simp only [PT]
 refine tQ [4] ?_;refine lookQ 5 rfl (by kernel_rfl) (by kernel_rfl) rfl rfl rfl 0 rfl (by kernel_rfl) _ (fun w' hf => look_pm hf 4 hG4.out) ?_
 try simp only [PT]
 refine tQ [6, 7, 8] ?_;refine dQ (hKQ.out _ _ ?_);clear hKQ KQ;have s0 : w1.drew.cell? ⟨w.heap.size, 0, none⟩ = some (.int .i64 win) := hbox.out.cell 0
 have s1 : w1.drew.cell? ⟨w.heap.size, 1, none⟩ = some (.int .i64 room) := hbox.out.cell 1
 have s2 : w1.drew.cell? ⟨w.heap.size, 2, none⟩ = some (.int .i64 most) := hbox.out.cell 2
 have s3 : w1.drew.cell? ⟨w.heap.size, 3, none⟩ = some (.int .i64 subs) := hbox.out.cell 3
 go_wp2_with fail
 refine (in_New most w1.drew hms'.1 hms'.2).mono ?_
 rintro e w2 ⟨rfl, hin, hb2⟩
 have hin := hid hin;have hb2 := hid hb2;have hpm2 := hid (hpm.out.map.below (w' := w2) ⟨hb2.out.os, hb2.out.tape, hb2.out.output, hb2.out.size, hb2.out.block⟩)
 have HL3 := look_pm hpm2.out 3 hG3.out
 have hbox2 := hid (hbox.out.drew.below hb2.out)
 clear s0 s1 s2 s3;have t0 : w2.cell? ⟨w.heap.size, 0, none⟩ = some (.int .i64 win) := hbox2.out.cell 0
 have t1 : w2.cell? ⟨w.heap.size, 1, none⟩ = some (.int .i64 room) := hbox2.out.cell 1
 have t3 : w2.cell? ⟨w.heap.size, 3, none⟩ = some (.int .i64 subs) := hbox2.out.cell 3
 have dsum : ((n3 : Int) + n2 + n4 + 1 == (n : Int)) = true := by have := bn.out; simp; omega
 go_wp2_with fail
 clear HL3 t0 t1 t3;have hrow2 : Hid (w2.rangeAt g1 0 x.o.session.cl) := hid (range_below2 hrow1.out hg1l.out.2 hb2.out)
 have hB1 := hid ((HB.out (.cells #[.int .i64 win, .int .i64 room, .int .i64 most, .int .i64 subs] 59)).trans (hb1.out.mono (by simp)))
 have hB2 := hid (hB1.out.drew.trans (hb2.out.mono (by have := hB1.out.size; exact this)))
 have hT2 := hid (hT.below hB2.out.drew)
 have CO := hid (out_Of_parted HX.out.po HO.out hroom hseq hk3.out _ a3 c3 n3 w2.drew hT2.out hn3.out (ownsRow_below (show w1.drew.ownsRow _ _ _ _ _ _ from q3.out) hb2.out.drew))
 rw [hwin.out, hrm.out] at CO
 refine regionQ [(1000, fun w' => w'.cell? ⟨w.heap.size, 0, none⟩ = some (.int .i64 win)), (1000, fun w' => w'.cell? ⟨w.heap.size, 1, none⟩ = some (.int .i64 room)), (1000, fun w' => w'.rangeAt g1 0 x.o.session.cl), (9, fun w' => IM .i64 w' m G)] (by kernel_rfl) ⟨hbox2.out.cell 0, hbox2.out.cell 1, hrow2.out, hpm2.out, trivial⟩ fun KQ hKQ => ?_
 try simp only [PT]
 refine tQ [0] ?_;refine lQ 1 0 ?_;refine tQ [2] ?_;refine lQ 3 1 ?_;refine tQ [4, 5] ?_;refine lR 6 2 rfl rfl rfl rfl (v := .agg (x.o.session.cl : List Value).toArray) (fun w' hf => run_loadAt_mid w' _ _ 33 (x.o.session.cl : List Value) _ hf Tryz.underlying33 rfl (by kernel_rfl)) ?_
 simp only [PT];refine tQ [7] ?_;refine lookQ 8 rfl (by kernel_rfl) (by kernel_rfl) rfl rfl rfl 3 rfl (by kernel_rfl) _ (fun w' hf => look_pm hf 3 hG3.out) ?_
 try simp only [PT]
 refine sQ 9 fun K hK => ?_;simp only [GO];go_simp;refine CO.out.mono ?_
 rintro e w3 ⟨L, rfl, hO, hN, hS3⟩
 have hO := hid hO;have hN := hid hN;have hF3 := hid (fun x hx => (hS3.sub x hx).resolve_left (by simp))
 have hB3 : Hid (Below w2.drew.heap.size w2.drew w3) := hid (hS3.wrote.below (Nat.le_refl _) (by simp))
 clear hS3 CO;have hbox3 := hid (hbox2.out.drew.below hB3.out)
 have hrow3 := hid (range_below2 hrow2.out (by have := hg1l.out.2; have := hb2.out.size; simp at this; omega) hB3.out)
 refine hK _ _ ⟨⟨fun _ => hbox3.out.cell 0, fun _ => hbox3.out.cell 1, fun _ => hrow3.out, fun h => absurd (show true = false from h) (by decide), trivial⟩, ?_⟩
 clear hK K;try simp only [PT]
 refine tQ [10, 11, 12, 13, 14] ?_;refine dQ (hKQ.out _ _ ?_);clear hKQ KQ;have t0 : w3.cell? ⟨w.heap.size, 0, none⟩ = some (.int .i64 win) := hbox3.out.cell 0
 have t1 : w3.cell? ⟨w.heap.size, 1, none⟩ = some (.int .i64 room) := hbox3.out.cell 1
 have t2 : w3.cell? ⟨w.heap.size, 2, none⟩ = some (.int .i64 most) := hbox3.out.cell 2
 have t3 : w3.cell? ⟨w.heap.size, 3, none⟩ = some (.int .i64 subs) := hbox3.out.cell 3
 have hmm := @run_makeMap Tryz.prog
 go_wp2_with fail
 obtain ⟨w4, hw4⟩ : ∃ W, W = ((w3.alloc (.map #[] 0)).alloc (.cells #[.pointer (some ⟨L.p, 0, none⟩), .int .i64 win, .int .i64 room, .int .i64 most, .int .i64 subs, .pointer (some ⟨w1.heap.size + 1, 0, none⟩), .map (some w3.heap.size), .bool false, .bool false, .int .i64 0, .int .i64 0, .pointer none] 132)).alloc (.cells #[.slice a2 n2 c2, .slice a4 n4 c4] 34) := ⟨_, rfl⟩
 have hsz4 : w4.heap.size = w3.heap.size + 3 := by rw [hw4]; simp
 have hB4 : Below w3.heap.size w3 w4 := by
  rw [hw4]
  exact belw
 have hmap4 : WM w4 w3.heap.size [] := by rw [hw4]; exact ((WM.new w3).alloc _).alloc _
 have hses4 : Blk w4 (w3.heap.size + 1) #[.pointer (some ⟨L.p, 0, none⟩), .int .i64 win, .int .i64 room, .int .i64 most, .int .i64 subs, .pointer (some ⟨w1.heap.size + 1, 0, none⟩), .map (some w3.heap.size), .bool false, .bool false, .int .i64 0, .int .i64 0, .pointer none] 132 := by
  rw [hw4]; exact (Blk.new_at _ _ _ _ (by simp)).alloc _
 have hsl4 : Blk w4 (w3.heap.size + 2) #[.slice a2 n2 c2, .slice a4 n4 c4] 34 := by rw [hw4]; exact Blk.new_at _ _ _ _ (by simp)
 rw [<- hw4]
 clear hw4 t0 t1 t2 t3 hmm;have hb14 := hid ((show Below w1.heap.size w1 w4 from undrew (hb2.out.trans ((undrew hB3.out).mono hb2.out.size |>.trans (hB4.mono (by have h1 := hb2.out.size; have h2 := hB3.out.size; simp at h2; omega))))))
 have q2l := hid fun y (hy : y ∈ blk (.slice a2 n2 c2)) => (q2.out.lt y (mem_blk.1 hy)).2
 have q4l := hid fun y (hy : y ∈ blk (.slice a4 n4 c4)) => (q4.out.lt y (mem_blk.1 hy)).2
 have q2 := hid (ownsRow_below q2.out hb14.out)
 have q4 := hid (ownsRow_below q4.out hb14.out)
 have hmap4 := hid hmap4;have hses4 := hid hses4;have hB4 := hid hB4;have hrow4 := hid (show w4.rangeAt g1 0 x.o.session.cl from fun j v hj => by have h1 := hrow1.out j v hj; exact (hb14.out.cell (p := ⟨g1, 0 + j, none⟩) hg1l.out.2).trans h1)
 refine (concat_two _ _ _ _ a2 a4 n2 n4 c2 c4 _ _ hsl4 q2.out q4.out hn2.out hn4.out (by omega)).mono ?_
 rintro e w5 ⟨ac, cc, rfl, hrc, hb5⟩
 obtain ⟨n24, h24⟩ : ∃ k, n2 + n4 = k := ⟨_, rfl⟩
 rw [h24] at hrc ⊢
 have hrc := hid hrc;have hb5 := hid hb5;have hRl : Hid (((wl.map fun p => x.sub p.1 p.2) ++ il.map fun i : Nat => x.inr (i : Int)).length = n24) := hid (by rw [List.length_append, hn2.out, hn4.out, h24])
 have b24 : n24 <= 2000 := by omega
 replace h24 := hid h24
 have hcheck : Hid (∀ r ∈ (wl.map fun p => x.sub p.1 p.2) ++ il.map (fun i : Nat => x.inr (i : Int)), r.client = x.o.client /\ ∀ W, Calls Tryz.prog 53 #[.agg r.vals] W fun e w' => e = .returned (.int .i64 0) /\ Below W.heap.size W w') := hid (by
  have hcl : x.o.client.length <= 1000000 := by have := HO.out.cl; omega
  intro r hr
  rcases List.mem_append.1 hr with h | h
  ·obtain ⟨p, hpm, rfl⟩ := List.mem_map.1 h
   have h2 := HX.out.w2 p (hwl.out.mem_iff.1 hpm)
   refine ⟨rfl, fun W => ?_⟩
   have := rec_Check_sub x.o.client p.1 p.2 W hcl h2.2
   rw [show subMay ⟨2, x.o.client, 0, 0, p.1, [], p.2, false, 0⟩ = true from h2.1] at this
   exact this
  ·obtain ⟨i, him, rfl⟩ := List.mem_map.1 h
   have h2 := HX.out.id2 i (hil.out.mem_iff.1 him)
   refine ⟨rfl, fun W => ?_⟩
   have := rec_Check_in x.o.client (i : Int) W hcl
   rw [show inMay ⟨4, x.o.client, 0, (i : Int), [], [], 0, false, 0⟩ = true by
    have hm := HX.out.po.may
    rw [<- HX.out.po.cl] at hm
    simp [inMay, hm]
    omega] at this
   exact this)
 go_wp2_with fail
 go_loopw [101] (fun i wr => ∃ k : Nat, i = .int .i64 k /\ k <= n24 /\ Hid (Below w5.heap.size w5 wr)) (fun i _ => n24 - (intOf i).toNat)
 case atStart => exact ⟨0, rfl, Nat.zero_le _, hid (Below.refl _ _)⟩
 case round =>
  obtain ⟨k, rfl, hk, hbr⟩ := hrel
  rcases Nat.lt_or_ge k n24 with hlt | hge
  ·have dk : decide ((k : Int) < (n24 : Int)) = true := decide_eq_true (by omega)
   obtain ⟨r, hr⟩ : ∃ r, ((wl.map fun p => x.sub p.1 p.2) ++ il.map fun i : Nat => x.inr (i : Int))[k]? = some r := ⟨_, List.getElem?_eq_getElem (by have := hRl.out; omega)⟩
   obtain ⟨gr, hga, -, hrow⟩ := own_range RowV.cl RowV.cllen hRl.out hrc.out (k := k) (x := r) hr
   subst hga;have hgl := (hrc.out.lt gr rfl).2
   have hrow' := hid (range_below hrow hgl hbr.out)
   obtain ⟨hrcl, hrch⟩ := hcheck.out r (List.mem_of_getElem? hr)
   have hrch : Hid (∀ W, Calls Tryz.prog 53 #[.agg r.cl.toArray] W fun e w' => e = .returned (.int .i64 0) /\ Below W.heap.size W w') := hid (by simpa [RowV.cl] using hrch)
   clear hrow hr
   go_wp2_with (first
    | (refine wpList_load_mid rfl 33 _ rfl gr (k * 9) rfl r.cl _ hrow'.out Tryz.underlying33 rfl (by kernel_rfl) ?_)
    | (refine wS 33 9 rfl wr.heap.size _ r.cl.toArray rfl rfl (Blk.new wr _ _) rfl rfl (RowV.one r) ?_; intro w6 hb6 hw6))
   have hb56 := hid (((Below.refl wr.heap.size wr).alloc (Nat.le_refl _) _).trans (hw6.below (by simp) (by simp)))
   have hb6' : Blk w6.drew wr.heap.size r.cl.toArray 33 := hb6
   have hc6 : w6.drew.cell? ⟨wr.heap.size, 1, none⟩ = some (.string ⟨x.o.client.toArray⟩) := by rw [<- hrcl]; exact hb6'.cell 1
   have hB46 := hid ((hb5.out.mono (Nat.le_refl _)).trans ((hbr.out.trans (hb56.out.mono hbr.out.size)).mono hb5.out.size))
   have hg16 : w6.drew.cell? ⟨g1, 1, none⟩ = some (.string ⟨x.o.client.toArray⟩) := (hB46.out.cell (p := ⟨g1, 1, none⟩) (by have := hg1l.out.2; have := hb14.out.size; simp; omega)).trans (hrow4.out 1 _ rfl)
   refine regionQ [(1000, fun w' => Blk w' wr.heap.size r.cl.toArray 33), (1000, fun w' => w'.cell? ⟨wr.heap.size, 1, none⟩ = some (.string ⟨x.o.client.toArray⟩)), (1000, fun w' => w'.cell? ⟨g1, 1, none⟩ = some (.string ⟨x.o.client.toArray⟩))] (by kernel_rfl) ⟨hb6', hc6, hg16, trivial⟩ fun KQ hKQ => ?_
   try simp only [PT]
   refine lR 0 0 rfl rfl rfl rfl (fun w' hf => run_load_blk hf 33 Tryz.underlying33 rfl (by kernel_rfl)) ?_
   simp only [PT];refine sQ 1 fun K hK => ?_;simp only [GO];go_simp;refine (hrch.out _).mono ?_
   rintro e w7 ⟨rfl, hb7⟩
   refine hK _ _ ⟨⟨fun _ => hb6'.below hb7, fun _ => (hb7.cell (p := ⟨wr.heap.size, 1, none⟩) hb6'.lt).trans hc6, fun _ => (hb7.cell (p := ⟨g1, 1, none⟩) (by have := hg1l.out.2; have := hb14.out.size; have := hB46.out.size; simp; omega)).trans hg16, trivial⟩, ?_⟩
   clear hK K;try simp only [PT]
   refine tQ [2, 3, 4] ?_;refine lQ 5 1 ?_;refine tQ [6, 7, 8] ?_;refine lQ 9 2 ?_;refine tQ [10, 11] ?_;refine dQ (hKQ.out _ _ ?_);clear hKQ KQ;go_wp2_with fail
   exact ⟨⟨k + 1, by go_num, by omega, hid (hbr.out.trans ((hb56.out.trans ((undrew hb7).mono hb56.out.size)).mono hbr.out.size))⟩, by simp [intOf]; omega⟩
  ·obtain rfl : k = n24 := by omega
   have dk : decide ((k : Int) < (k : Int)) = false := by simp
   have hs12 : w1.heap.size + 1 < w2.heap.size := hin.out.box.lt
   have hs23 : w2.heap.size <= w3.heap.size := by have := hB3.out.size; simpa using this
   have hin4 := hid (((hin.out.below (Below.refl _ w2).drew).below (hB3.out.trans (hB4.out.mono hs23))))
   have hZ0 : Hid (ZI w4 w3.heap.size (w1.heap.size + 1) w1.heap.size most wl il wr 0 0 (fun _ => 0)) := hid (by
    have hb := hb5.out.trans (hbr.out.mono hb5.out.size)
    exact ⟨Wrote.of_below hb, by simpa using hmap4.out.below hb, hin4.out.below hb, by simpa using SetIs.nil⟩)
   have hwln : (wl.map Prod.fst).Nodup := (hwl.out.map _).nodup_iff.2 HX.out.wn
   have hwln := hid hwln;have hiln := hid (hil.out.nodup_iff.2 HX.out.idn)
   have hwll : Hid (wl.length = n2) := hid (by rw [<- hn2.out, List.length_map])
   have hill : Hid (il.length = n4) := hid (by rw [<- hn4.out, List.length_map])
   have hm4 : n4 <= most.toNat := by have := hn4'.out; have := hl3.out; have := hmost.out; omega
   clear hrc hcheck hRl hbr h24 dk hk;go_wp2_with fail
   go_loopw [120] (fun i wr => ∃ k : Nat, i = .int .i64 k /\ k <= n2 /\ Hid (ZI w4 w3.heap.size (w1.heap.size + 1) w1.heap.size most wl il wr k 0 (fun _ => 0))) (fun i _ => n2 - (intOf i).toNat)
   case atStart => exact ⟨0, rfl, Nat.zero_le _, hZ0⟩
   case round =>
    obtain ⟨k, rfl, hk, hZ⟩ := hrel
    rcases Nat.lt_or_ge k n2 with hlt | hge
    ·have dk : decide ((k : Int) < (n2 : Int)) = true := decide_eq_true (by omega)
     obtain ⟨p, hpk⟩ : ∃ p, wl[k]? = some p := ⟨_, List.getElem?_eq_getElem (by have := hwll.out; omega)⟩
     have q2w := not_own q2.out hZ.out.wr (fun y hy hb => by have := q2l.out y hb; simp at hy; omega)
     obtain ⟨gr, hga, -, hrow⟩ := own_range RowV.cl RowV.cllen hn2.out q2w (k := k) (x := x.sub p.1 p.2) (by simp [hpk])
     subst hga;have hrow' := hid hrow;have hpk := hid hpk;obtain ⟨rv, hrv⟩ : ∃ rv, (x.sub p.1 p.2).cl = rv := ⟨_, rfl⟩
     have hr4 : rv[4]? = some (.string ⟨p.1.toArray⟩) := by rw [<- hrv]; rfl
     have hr6 : rv[6]? = some (.int .i64 p.2) := by rw [<- hrv]; rfl
     have hrl : rv.length = 9 := by rw [<- hrv]; rfl
     have hro := RowV.one (x.sub p.1 p.2)
     rw [hrv] at hro hrow'
     have hro := hid hro;have hr4 := hid hr4;have hr6 := hid hr6;have hrl := hid hrl;clear hrow q2w hrv
     go_wp2_with (first
      | (refine wpList_load_mid rfl 33 _ rfl gr (k * 9) rfl rv _ hrow'.out Tryz.underlying33 rfl (by rw [hrl.out]; kernel_rfl) ?_)
      | (refine wS 33 9 rfl wr.heap.size _ rv.toArray rfl rfl (Blk.new wr _ _) (by simpa using hrl.out) rfl (by simpa using hro.out) ?_; intro w6 hb6 hw6))
     have hb56 := hid (((Below.refl wr.heap.size wr).alloc (Nat.le_refl _) _).trans (hw6.below (by simp) (by simp)))
     have hW6 := hid (hZ.out.wr.trans (Wrote.of_below hb56.out))
     have hse6 : w6.drew.cell? ⟨w3.heap.size + 1, 6, none⟩ = some (.map (some w3.heap.size)) := (hses4.out.wrote hW6.out (by simp; omega)).cell 6
     have hc4 : w6.drew.cell? ⟨wr.heap.size, 4, none⟩ = some (.string ⟨p.1.toArray⟩) := (hb6.cell 4).trans (by simpa using hr4.out)
     have hc6 : w6.drew.cell? ⟨wr.heap.size, 6, none⟩ = some (.int .i64 p.2) := (hb6.cell 6).trans (by simpa using hr6.out)
     refine regionQ [(8, fun w' => w'.cell? ⟨w3.heap.size + 1, 6, none⟩ = some (.map (some w3.heap.size))), (8, fun w' => w'.cell? ⟨wr.heap.size, 4, none⟩ = some (.string ⟨p.1.toArray⟩)), (8, fun w' => w'.cell? ⟨wr.heap.size, 6, none⟩ = some (.int .i64 p.2))] (by kernel_rfl) ⟨hse6, hc4, hc6, trivial⟩ fun KQ hKQ => ?_
     try simp only [PT]
     refine tQ [0] ?_;refine nQ 1 ?_;refine tQ [2] ?_;refine lQ 3 0 ?_;refine tQ [4] ?_;refine lQ 5 1 ?_;refine tQ [6] ?_;refine lQ 7 2 ?_;refine sQ 8 fun K hK => ?_;simp only [GO];refine wp_update_text _ _ _ 83 rfl 9 3 Tryz.underlying83 Tryz.underlying9 (hZ.out.map.below hb56.out.drew) rfl p.1 p.2 rfl rfl fun w8 hm8 hg8 => ?_
     refine hK _ _ ⟨⟨(fun h => by cases h), (fun h => by cases h), (fun h => by cases h), trivial⟩, ?_⟩
     clear hK K;try simp only [PT]
     refine dQ (hKQ.out _ _ ?_);clear hKQ KQ;rw [ins_new (take_new Prod.fst hwln.out hpk.out)] at hm8
     have hZ2 : Hid (ZI w4 w3.heap.size (w1.heap.size + 1) w1.heap.size most wl il w8 (k + 1) 0 (fun _ => 0)) := hid (by
      refine ⟨(hW6.out.trans (Wrote.of_below ((Below.refl _ w6).drew))).trans (Wrote.of_grown hg8 (fun y hy => by simp at hy; simp [hy])), by rw [List.take_add_one, hpk.out]; exact hm8, (hZ.out.inb.below hb56.out.drew).wrote (Wrote.of_grown (M := [w3.heap.size]) hg8 (fun y hy => by simp at hy; simp [hy])) (by simp; omega) (by simp; omega), hZ.out.set⟩)
     clear hm8 hg8;go_wp2_with fail
     exact ⟨⟨k + 1, by go_num, by omega, hZ2⟩, by simp [intOf]; omega⟩
    ·obtain rfl : k = n2 := by omega
     have dk : decide ((k : Int) < (k : Int)) = false := by simp
     have HOB := hid fun (W : World) (hW : Wrote [w3.heap.size, w1.heap.size] w4 W) => (hO.out.below hB4.out).out hW (fun y hy hf => by have h1 := hF3.out y hf; have h2 := hO.out.lt y hf; simp at hy h1; omega) (by have := hT.lt; have := hB2.out.size; have := hB1.out.size; have := hb1.out.size; simp at *; omega)
     go_wp2_with fail
     go_loopw [135] (fun i wr => ∃ (j : Nat) (Wd : Nat -> Nat), i = .int .i64 j /\ j <= n4 /\ Hid (ZI w4 w3.heap.size (w1.heap.size + 1) w1.heap.size most wl il wr k j Wd)) (fun i _ => n4 - (intOf i).toNat)
     case atStart => exact ⟨0, _, rfl, Nat.zero_le _, hZ⟩
     case round =>
      obtain ⟨j, Wd, rfl, hj, hZ⟩ := hrel
      rcases Nat.lt_or_ge j n4 with hlt | hge
      ·have dk : decide ((j : Int) < (n4 : Int)) = true := decide_eq_true (by omega)
       obtain ⟨i, hik⟩ : ∃ i, il[j]? = some i := ⟨_, List.getElem?_eq_getElem (by have := hill.out; omega)⟩
       have q4w := not_own q4.out hZ.out.wr (fun y hy hb => by have := q4l.out y hb; simp at hy; omega)
       obtain ⟨gr, hga, -, hrow⟩ := own_range RowV.cl RowV.cllen hn4.out q4w (k := j) (x := x.inr (i : Int)) (by simp [hik])
       subst hga;have hrow' := hid hrow;have hik := hid hik;have hi2 := hid (HX.out.id2 i (hil.out.mem_iff.1 (List.mem_of_getElem? hik.out)))
       obtain ⟨rv, hrv⟩ : ∃ rv, (x.inr (i : Int)).cl = rv := ⟨_, rfl⟩
       have hr3 : rv[3]? = some (.int .i64 (i : Int)) := by rw [<- hrv]; rfl
       have hrl : rv.length = 9 := by rw [<- hrv]; rfl
       have hro := RowV.one (x.inr (i : Int))
       rw [hrv] at hro hrow'
       have hro := hid hro;have hr3 := hid hr3;have hrl := hid hrl
       have hnew : Hid ((i : Int).toNat ∉ il.take j) := hid (by
        rw [Int.toNat_natCast]
        exact fun hm => take_new id (by simpa using hiln.out) hik.out i hm rfl)
       have CC := hid fun (W : World) (hb : Below wr.heap.size wr W) => in_Come (w1.heap.size + 1) w1.heap.size most Wd (il.take j) (i : Int) W (hZ.out.inb.below hb) hZ.out.set (HOB.out W (hZ.out.wr.trans (Wrote.of_below hb))).tz (by have := hi2.out; omega) (by have := hi2.out; omega) (by have := hT.lt; have := hB1.out.size; have := hb1.out.size; simp at *; omega) hnew.out (by have := hill.out; have h9 := List.length_take_le j il; omega)
       clear hrow q4w hrv
       go_wp2_with (first
        | (refine wpList_load_mid rfl 33 _ rfl gr (j * 9) rfl rv _ hrow'.out Tryz.underlying33 rfl (by rw [hrl.out]; kernel_rfl) ?_)
        | (refine wS 33 9 rfl wr.heap.size _ rv.toArray rfl rfl (Blk.new wr _ _) (by simpa using hrl.out) rfl (by simpa using hro.out) ?_; intro w6 hb6 hw6; have hb56 := hid (((Below.refl wr.heap.size wr).alloc (Nat.le_refl _) _).trans (hw6.below (by simp) (by simp))); have hc3 : w6.cell? ⟨wr.heap.size, 3, none⟩ = some (.int .i64 (i : Int)) := (hb6.cell 3).trans (by simpa using hr3.out))
        | (go_at_call 54; refine (CC.out _ hb56.out).mono ?_; rintro e w7 ⟨rfl, hI7, hw7⟩))
       rw [Int.toNat_natCast] at hI7
       have hnew2 := hnew.out
       rw [Int.toNat_natCast] at hnew2
       exact ⟨⟨j + 1, _, by go_num, by omega, hid ⟨(hZ.out.wr.trans (Wrote.of_below hb56.out)).trans (hw7.sub (fun y hy => by simp at hy; simp [hy])), (hZ.out.map.below hb56.out).wrote hw7 (by simp; omega), hI7, by rw [List.take_add_one, hik.out]; exact (hZ.out.set.come (by have := hi2.out; omega) hnew2).perm (List.perm_append_singleton i _).symm⟩⟩, by simp [intOf]; omega⟩
      ·obtain rfl : j = n4 := by omega
       have dk : decide ((j : Int) < (j : Int)) = false := by simp
       have hmE := hZ.out.map
       have hsE := hZ.out.set
       rw [List.take_of_length_le (by have := hwll.out; omega)] at hmE
       rw [List.take_of_length_le (by have := hill.out; omega)] at hsE
       have HLen := run_len_text (P := Tryz.prog) 83 9 3 Tryz.underlying83 hmE 3
       rw [hwll.out] at HLen
       have hseE := hses4.out.wrote hZ.out.wr (by simp; omega)
       have q6 : wr.cell? ⟨w3.heap.size + 1, 6, none⟩ = some (.map (some w3.heap.size)) := hseE.cell 6
       have hseE := hid hseE;have hmE := hid hmE;have hsE := hid hsE;have dq : ((k : Int) == (k : Int)) = true := by simp
       go_wp2_with fail
       try simp only [Exit.noGoto_ret]
       go_returns
       have hgT := hT.lt
       have hsz1 := hB1.out.size
       have hsz14 := hb1.out.size
       simp at hsz14
       have hOE := HOB.out wr hZ.out.wr
       have hNE := hN.out
       refine ⟨⟨w3.heap.size + 1, L, w1.heap.size + 1, w1.heap.size, w3.heap.size, none, Wd⟩, wl, il, rfl, hwl.out, hil.out, ⟨?_, ob_rebase2 hOE hNE, hNE, ?_, hsE.out, hmE.out, trivial, ?_, ?_, ?_, ?_⟩, ⟨?_, ?_⟩⟩
       ·have := hseE.out
        rw [<- hwin.out, <- hrm.out, <- hmost.out, <- hsubs.out] at this
        exact this
       ·rw [show (x.fresh wl il).most = most from hmost.out]
        exact hZ.out.inb
       ·intro b hb hf
        have h1 := hF3.out b hf
        have h2 := hO.out.lt b hf
        simp only [World.size_drew] at h1
        simp only [XLay.own, Option.toList_none, List.mem_cons, List.not_mem_nil, or_false] at hb
        omega
       ·simp only [XLay.own, Option.toList_none, List.nodup_cons, List.mem_cons, List.not_mem_nil, or_false, not_or, List.nodup_nil, and_true, not_false_eq_true]
        omega
       ·simp only [XLay.own, Option.toList_none, List.mem_cons, List.not_mem_nil, or_false, not_or]
        refine ⟨?_, ?_, ?_, ?_⟩ <;> omega
       ·refine ⟨HK.out.most, HK.out.subs, fun i hi => HX.out.id2 i (hil.out.mem_iff.1 hi), ?_, ?_, by simp [XS.fresh]⟩
        ·show (il.length : Int) <= x.most
         rw [hil.out.length_eq]; exact HK.out.under
        ·show (wl.length : Int) <= x.subs
         rw [hwl.out.length_eq]; exact HK.out.wants
       ·have h1 : Wrote [] w w4 := Wrote.of_below (hB2.out.trans (((Below.refl _ w2).drew.trans (hB3.out.trans (hB4.out.mono hs23))).mono hB2.out.size))
        exact h1.andNew hZ.out.wr (by simp; omega)
       ·intro b hb
        right
        simp only [XLay.foot, XLay.own, Option.toList_none, List.cons_append, List.nil_append, List.mem_cons] at hb
        have hsz2 := hB2.out.size
        rcases hb with hb | hb | hb | hb | hb
        ·omega
        ·omega
        ·omega
        ·omega
        ·have h1 := hF3.out b hb
         simp only [World.size_drew] at h1
         omega
end
section
theorem val_20 : Val 4626322717216342016 80 := ⟨2 ^ 52 + 2 ^ 50, -48, by decide, by decide, by
 obtain ⟨E, hE⟩ : ∃ E : Nat, 1026 = E := ⟨_, rfl⟩
 rw [show ((-48 : Int) + 1074).toNat = 1026 from rfl, show (1072 : Nat) = 46 + 1026 from rfl, Nat.pow_add 2 46 1026, hE]
 generalize (2 : Nat) ^ E = p
 show _ = 80 * (2 ^ 46 * p)
 rw [<- Nat.mul_assoc]⟩
theorem law_setup (w : World) : Calls Tryz.prog 20 #[] w fun e w' => e = .returned (.agg #[.int .i64 2, .int .i64 5, .int .i64 3, .int .i64 3]) /\ Below w.heap.size w w' := by
 go_enter Tryz.func20, Tryz.ntmps20
 go_wp2
 go_returns
 exact ⟨rfl, (Below.refl _ w).alloc (Nat.le_refl _) _⟩
def lX0 : XS := XS.new 2 5 3 3 [99]
def lX1 : XS := { lX0 with clean := true, on := true, keep := 10, heard := 5, will := none }
def lX2 : XS := { lX1 with wants := ins lX1.wants [97] 1 }
def lS2 : SS := (lX2.o.put (lX2.o.row [97] [120] 1 false)).start.all.fin (lX2.o.seq + 1) lX2.o.id
def lX3 : XS := { lX2 with o := lS2.s }
theorem lM0 : sessMay (sessV [99] 0 1) = true := by kernel_rfl
theorem lM1 : subMay (lX1.sub [97] 1) = true := by kernel_rfl
theorem lM2 : subMay (lX2.sub [97] 1) = true := by kernel_rfl
theorem lM3 : putMay (lX2.o.row [97] [120] 1 false) = true := by kernel_rfl
theorem lN : nameR [97] = true := by kernel_rfl
theorem lP : lS2.ps = [⟨3, false, false, 1, [97], [120], 1⟩] := by kernel_rfl
theorem lL2 : look lX2.wants [97] = some 1 := by decide
theorem known23 (w : World) (hT : TzAt w) : Calls Tryz.prog 22 #[] w fun e w' => e = .returned (.bool true) /\ Below w.heap.size w w' := by
 have CU := hid law_setup;go_enter Tryz.func22, Tryz.ntmps22
 go_wp2_with fail
 refine (CU.out _).mono ?_
 rintro e wa ⟨rfl, hba⟩
 go_wp2_with fail
 refine (ses_New 2 5 3 3 [99] wa (hT.below hba) (by decide) (by decide) (by decide) (by decide) (by decide) lM0).mono ?_
 rintro e w0 ⟨S0, rfl, hx0, hst0⟩
 have hx0 : Hid (XB w0 w0.heap.size S0 lX0) := hid hx0
 have hst0 : Hid (Stp [] S0.foot w w0) := hid ((Stp.below hba).trans hst0)
 go_wp2_with fail
 refine (ses_On_nil hx0.out true 10 5 (by decide)).mono ?_
 rintro e w1 ⟨rfl, hx1, hst1⟩
 have hst1 := hid (hst0.out.trans hst1)
 obtain ⟨S1, hS1⟩ : ∃ S1, ({ S0 with wv := none } : XLay) = S1 := ⟨_, rfl⟩
 have hp1 : S0.p = S1.p := by rw [<- hS1]
 rw [hS1] at hx1 hst1
 rw [hp1]
 have hx1 : Hid (XB w1 w0.heap.size S1 lX1) := hid hx1
 clear hS1 hp1 hst0 hx0;go_wp2_with fail
 refine (ses_Want_put hx1.out [97] 1 (by decide) lM1 none rfl (.inl ⟨rfl, by decide⟩)).mono ?_
 rintro e w2 ⟨g2, rfl, d2⟩
 have d2 : Hid (SDid w1 w2 S1 S1 lX2 _ _ _ _) := hid d2
 go_wp2_with fail
 have hA : Hid (Blk (w2.alloc (.cells #[.slice none 0 0, .slice (some ⟨g2, 0, none⟩) 1 1] 53)) w2.heap.size #[.slice none 0 0, .slice (some ⟨g2, 0, none⟩) 1 1] 53) := hid (Blk.new w2 _ _)
 have hAn : w2.heap.size ∉ S1.foot := d2.out.xb.foot_lt (Nat.le_refl _)
 have hxA := hid (d2.out.xb.alloc (.cells #[.slice none 0 0, .slice (some ⟨g2, 0, none⟩) 1 1] 53)).top
 have hstA := hid ((hst1.out.trans d2.out.stp).trans (Stp.below ((Below.refl _ w2).alloc (Nat.le_refl _) (.cells #[.slice none 0 0, .slice (some ⟨g2, 0, none⟩) 1 1] 53))))
 refine (ses_Want_same hxA.out [97] 1 (by decide) lM2 lL2).mono ?_
 rintro e w3 ⟨rfl, hb3⟩
 have hA3 := hid (hA.out.below hb3)
 have hx3 := hid ((hxA.out.below hb3).alloc (.cells didZ 53)).top
 have hst3 := hid ((hstA.out.trans (Stp.below hb3)).trans (Stp.below ((Below.refl _ w3).alloc (Nat.le_refl _) (.cells didZ 53))))
 have hBn : w3.heap.size ∉ S1.foot := (hxA.out.below hb3).foot_lt (Nat.le_refl _)
 have hBB : Hid (Blk (w3.alloc (.cells didZ 53)) w3.heap.size didZ 53) := hid (Blk.new w3 _ _)
 have hA3' := hid (hA3.out.alloc (.cells didZ 53))
 clear hA hxA hstA hx1 hst1;unfold didZ at *
 go_wp2_with fail
 refine (ses_Give_on hx3.out [97] [120] 1 false (by decide) lN (by decide) (by decide) lM3 (by decide) (by decide) rfl).mono ?_
 rintro e w4 ⟨vp, vc, L4, rfl, d4⟩
 have d4 : SDid _ w4 S1 { S1 with o := L4 } lX3 vp vc lS2.ps _ := d4
 rw [lP] at d4
 have hA4 := hid (hA3'.out.wrote d4.stp.wrote hAn)
 have hB4 := hid (hBB.out.wrote d4.stp.wrote hBn)
 have hst4 := hid (hst3.out.trans d4.stp)
 obtain ⟨ac, nc, cc, rfl⟩ : ∃ a n c, vc = .slice a n c := by obtain ⟨a, c, h⟩ := own_slice d4.chgs; exact ⟨_, _, _, h⟩
 obtain ⟨av, cv, rfl⟩ := own_slice d4.packs
 obtain ⟨g4, rfl, hcap4, hrow4⟩ := own_range PackV.cells PackV.len (l := [⟨3, false, false, 1, [97], [120], 1⟩]) (n := [(⟨3, false, false, 1, [97], [120], 1⟩ : PackV)].length) rfl d4.packs (k := 0) rfl
 have hg4 := (d4.packs.lt g4 rfl).2
 have hbody : w4.cell? ⟨g4, 5, none⟩ = some (.string ⟨#[120]⟩) := hrow4 5 _ rfl
 have hx4 := hid d4.xb;clear hA3 hA3' hBB hx3 hst3 hrow4 d4;have hx5 := hid ((hx4.out.alloc (.cells #[.slice (some ⟨g4, 0, none⟩) 1 cv, .slice ac nc cc] 53)).top)
 have hC5 : Hid (Blk (w4.alloc (.cells #[.slice (some ⟨g4, 0, none⟩) 1 cv, .slice ac nc cc] 53)) w4.heap.size #[.slice (some ⟨g4, 0, none⟩) 1 cv, .slice ac nc cc] 53) := hid (Blk.new w4 _ _)
 have hA5 := hid (hA4.out.alloc (.cells #[.slice (some ⟨g4, 0, none⟩) 1 cv, .slice ac nc cc] 53))
 have hB5 := hid (hB4.out.alloc (.cells #[.slice (some ⟨g4, 0, none⟩) 1 cv, .slice ac nc cc] 53))
 have hbody5 := cell_alloc hbody (.cells #[.slice (some ⟨g4, 0, none⟩) 1 cv, .slice ac nc cc] 53)
 have hst5 := hid (hst4.out.trans (Stp.below ((Below.refl _ w4).alloc (Nat.le_refl _) (.cells #[.slice (some ⟨g4, 0, none⟩) 1 cv, .slice ac nc cc] 53))))
 go_wp2_with fail
 replace hbody5 := hid hbody5;refine (ses_Due hx5.out (by decide) (by decide)).mono ?_
 rintro e w6 ⟨b, rfl, hd, hb6⟩
 have hv : Val b 80 := by
  unfold DueB at hd
  rw [if_pos (show lX3.runs = true from rfl)] at hd
  exact hd
 have hord : FloatKind.f64.format.order b 4626322717216342016 = some .eq := (val_order hv val_20).trans rfl
 have hx6 := hid (hx5.out.below hb6)
 clear hd;go_wp2_with fail
 refine (ses_Late hx6.out (by decide) (by decide) 20 (by decide) (by decide)).mono ?_
 rintro e w7 ⟨rfl, hb7⟩
 have hx7 := hid (hx6.out.below hb7)
 have e20 : (lX3.runs && decide (lX3.due < 4 * (20 : Int).toNat)) = false := by kernel_rfl
 rw [e20]
 go_wp2_with fail
 refine (ses_Late hx7.out (by decide) (by decide) 21 (by decide) (by decide)).mono ?_
 rintro e w8 ⟨rfl, hb8⟩
 have hx8 := hid (hx7.out.below hb8)
 have e21 : (lX3.runs && decide (lX3.due < 4 * (21 : Int).toNat)) = true := by kernel_rfl
 rw [e21]
 have hb58 : Below (w4.alloc (.cells #[.slice (some ⟨g4, 0, none⟩) 1 cv, .slice ac nc cc] 53)).heap.size (w4.alloc (.cells #[.slice (some ⟨g4, 0, none⟩) 1 cv, .slice ac nc cc] 53)) w8 := (hb6.trans (hb7.mono hb6.size)).trans (hb8.mono (Nat.le_trans hb6.size hb7.size))
 have a1 : w8.cell? ⟨w2.heap.size, 1, none⟩ = some (.slice (some ⟨g2, 0, none⟩) 1 1) := (hA5.out.below hb58).cell 1
 have a2 : w8.cell? ⟨w3.heap.size, 1, none⟩ = some (.slice none 0 0) := (hB5.out.below hb58).cell 1
 have a3 : w8.cell? ⟨w4.heap.size, 0, none⟩ = some (.slice (some ⟨g4, 0, none⟩) 1 cv) := (hC5.out.below hb58).cell 0
 have a4 : w8.cell? ⟨g4, 5, none⟩ = some (.string ⟨#[120]⟩) := (hb58.cell (p := ⟨g4, 5, none⟩) (by simp; omega)).trans hbody5.out
 have CC := hid (ses_Client hx8.out)
 have CL := hid (fun W (hb : Below w8.heap.size w8 W) => ses_Clean (hx8.out.below hb))
 have CI := hid (fun W (hb : Below w8.heap.size w8 W) => ses_IsOn (hx8.out.below hb))
 go_wp2_with (first
  | (go_at_call 62; refine CC.out.mono ?_; rintro e w9 ⟨rfl, hb9⟩)
  | (go_at_call 39; refine (CL.out _ hb9).mono ?_; rintro e w10 ⟨rfl, rfl⟩)
  | (go_at_call 38; refine (CI.out _ hb9).mono ?_; rintro e w11 ⟨rfl, rfl⟩))
 go_ret
 have hbw := hst5.out.wrote.below (Nat.le_refl _) (by simp)
 have hbl := hb58.trans (hb9.mono hb58.size)
 exact ⟨rfl, hbw.trans (hbl.mono hbw.size)⟩
end
end Go.Proofs.YtoinabapaeebfaaGreatDoor
