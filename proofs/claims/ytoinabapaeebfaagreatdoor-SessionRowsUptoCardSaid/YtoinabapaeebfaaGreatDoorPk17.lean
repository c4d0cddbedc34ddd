/- Parts of the proof of SessionRows: contracts of functions that it reaches, and plain lemmas. No condition of their own. -/
import Derived.Test.YtoinabapaeebfaaGreatDoorPk15
import Derived.Test.YtoinabapaeebfaaGreatDoorPk16
set_option linter.unusedSimpArgs false
set_option linter.unusedVariables false
set_option maxRecDepth 100000
set_option maxHeartbeats 8000000
namespace Go.Proofs.YtoinabapaeebfaaGreatDoor
open Go.RowKit Go.Shelf
section
theorem bk_Act_badend1 {P : Prop} (h : P := by
 refine (CN.out _ B0).mono ?_
 rintro e w2 ⟨rfl, rfl⟩
 have y0 : w1.cell? ⟨w.heap.size, 0, none⟩ = some (.slice none 0 0) := D0.cell 0
 have y1 : w1.cell? ⟨w.heap.size, 1, none⟩ = some (.slice none 0 0) := D0.cell 1
 have z0 := D0.frozen 0
 have z1 := D0.frozen 1
 go_wp2
 refine bodyPost_gen (fun W' => W'.cell? ⟨w.heap.size, 0, none⟩ = some (.slice none 0 0) /\ W'.cell? ⟨w.heap.size, 1, none⟩ = some (.slice none 0 0) /\ Wrote [w.heap.size] w1 W') ⟨((D0.set 0 _).set 1 _).cell 0, ((D0.set 0 _).set 1 _).cell 1, (Wrote.setCell (M := [w.heap.size]) w1 ⟨w.heap.size, 0, none⟩ (by simp) _).trans (Wrote.setCell _ ⟨w.heap.size, 1, none⟩ (by simp) _)⟩ ?_
 rintro W' ⟨e0, e1, hW⟩
 refine bodyPost_ret (v := .tuple #[.agg #[.slice none 0 0, .slice none 0 0], .int .i64 2]) (by simp [results, Tryz.results43, go_sem, e0, e1]) rfl ?_
 exact ⟨rfl, B0.trans (hW.below B0.size (by simp))⟩) : P := h
theorem out_Put_arg {w : World} {B : Nat} {L : Lay} {s : OS} {ps : List PackV} {cs : List ChangeV} (h : OB w B L s ps cs) (topic body : List UInt8) (qos : Int) (retain : Bool)
  (ht : topic.length <= 9223372036854775807) (hA : AnyOK topic) (hmay : putMay (s.row topic body qos retain) = false) :
  Calls Tryz.prog 41 #[.pointer (some ⟨L.p, 0, none⟩), .string ⟨topic.toArray⟩, .string ⟨body.toArray⟩, .int .i64 qos, .bool retain] w fun e w' => e = .returned (.tuple #[.agg #[.slice none 0 0, .slice none 0 0], .int .i64 2]) /\ Below w.heap.size w w' := by
 have CK := hid fun w1 => rec_Check_put (s.row topic body qos retain) w1 rfl rfl rfl (by have := h.ok.cl; show s.client.length <= _; omega) ht hA
 rw [if_neg (by rw [hmay]; simp)] at CK
 obtain ⟨r, hr⟩ : ∃ r, s.row topic body qos retain = r := ⟨_, rfl⟩
 have hrv : r.vals = #[.int .i64 3, .string ⟨s.client.toArray⟩, .int .i64 s.seq, .int .i64 0, .string ⟨topic.toArray⟩, .string ⟨body.toArray⟩, .int .i64 qos, .bool retain, .int .i64 1] := by rw [<- hr]; rfl
 rw [hr] at CK
 rw [hrv] at CK
 have hok := h.ok
 obtain ⟨client, window, room, seq, id, l⟩ := s
 obtain ⟨p, ib, sb, vl, vp, vc, rb, W⟩ := L
 dsimp only at hok CK ⊢
 have hvl := h.rows
 try dsimp only at hvl
 obtain ⟨al, cl, rfl⟩ := own_slice hvl
 replace hvl := hid hvl;have hlen := hok.room
 clear hok hr hmay;have CN := hid fun (w1 : World) (hb : Below w.heap.size w w1) => out_none (h.below hb)
 try dsimp only at CN
 have c1 : ∀ o, (w.alloc o).cell? ⟨p, 1, none⟩ = some (.string ⟨client.toArray⟩) := fun o => (h.box.alloc o).cell 1
 have c4 : ∀ o, (w.alloc o).cell? ⟨p, 4, none⟩ = some (.int .i64 seq) := fun o => (h.box.alloc o).cell 4
 have hp : p < w.heap.size := h.box.lt
 try dsimp only at hp
 go_enter Tryz.func41, Tryz.ntmps41
 go_wp2_with (go_at_call 58; refine (CN.out _ ((Below.refl _ w).alloc (Nat.le_refl _) _)).mono ?_; rintro e w1 ⟨rfl, rfl⟩)
 go_region
 go_wp2_with fail
 refine (CK.out _).mono ?_
 clear CK;rintro e w2 ⟨rfl, hb2⟩
 have hB2 : Below w.heap.size w w2 := ((((Below.refl _ w).alloc (Nat.le_refl _) _).alloc (by simp) _).drew).trans (hb2.mono (by simp; omega))
 have hDid2 := ((Blk.new w #[.slice none 0 0, .slice none 0 0] 53).alloc (.cells #[.int .i64 3, .string ⟨client.toArray⟩, .int .i64 seq, .int .i64 0, .string ⟨topic.toArray⟩, .string ⟨body.toArray⟩, .int .i64 qos, .bool retain, .int .i64 1] 33)).drew.below hb2
 clear hb2 c1 c4 CN;have hp2 : p ≠ w.heap.size := by omega
 have k0 := hDid2.cell 0
 have k1 := hDid2.cell 1
 try dsimp only at k0 k1
 have b0 := hDid2.frozen 0
 have b1 := hDid2.frozen 1
 go_wp2
 refine bodyPost_gen (fun W' => W'.cell? ⟨w.heap.size, 0, none⟩ = some (.slice none 0 0) /\ W'.cell? ⟨w.heap.size, 1, none⟩ = some (.slice none 0 0) /\ Below w.heap.size w W') ⟨((hDid2.set 0 _).set 1 _).cell 0, ((hDid2.set 0 _).set 1 _).cell 1, (hB2.setCell (Nat.le_refl _) _).setCell (Nat.le_refl _) _⟩ ?_
 rintro W' ⟨e0, e1, hW⟩
 exact bodyPost_ret (v := .tuple #[.agg #[.slice none 0 0, .slice none 0 0], .int .i64 2]) (by simp [results, Tryz.results41, go_sem, e0, e1]) rfl ⟨rfl, hW⟩
theorem out_Put_full {w : World} {B : Nat} {L : Lay} {s : OS} {ps : List PackV} {cs : List ChangeV} (h : OB w B L s ps cs) (topic body : List UInt8) (qos : Int) (retain : Bool)
  (ht : topic.length <= 9223372036854775807) (hA : AnyOK topic) (hmay : putMay (s.row topic body qos retain) = true) (hroom : s.room <= (s.l.length : Int)) :
  Calls Tryz.prog 41 #[.pointer (some ⟨L.p, 0, none⟩), .string ⟨topic.toArray⟩, .string ⟨body.toArray⟩, .int .i64 qos, .bool retain] w fun e w' => e = .returned (.tuple #[.agg #[.slice none 0 0, .slice none 0 0], .int .i64 150]) /\ Below w.heap.size w w' := by
 have CK := hid fun w1 => rec_Check_put (s.row topic body qos retain) w1 rfl rfl rfl (by have := h.ok.cl; show s.client.length <= _; omega) ht hA
 rw [if_pos hmay] at CK
 obtain ⟨r, hr⟩ : ∃ r, s.row topic body qos retain = r := ⟨_, rfl⟩
 have hrv : r.vals = #[.int .i64 3, .string ⟨s.client.toArray⟩, .int .i64 s.seq, .int .i64 0, .string ⟨topic.toArray⟩, .string ⟨body.toArray⟩, .int .i64 qos, .bool retain, .int .i64 1] := by rw [<- hr]; rfl
 rw [hr] at CK
 rw [hrv] at CK
 have hok := h.ok
 obtain ⟨client, window, room, seq, id, l⟩ := s
 obtain ⟨p, ib, sb, vl, vp, vc, rb, W⟩ := L
 dsimp only at hok CK ⊢
 have hvl := h.rows
 try dsimp only at hvl
 obtain ⟨al, cl, rfl⟩ := own_slice hvl
 replace hvl := hid hvl;have hlen := hok.room
 clear hok hr hmay;have CN := hid fun (w1 : World) (hb : Below w.heap.size w w1) => out_none (h.below hb)
 try dsimp only at CN
 have c1 : ∀ o, (w.alloc o).cell? ⟨p, 1, none⟩ = some (.string ⟨client.toArray⟩) := fun o => (h.box.alloc o).cell 1
 have c4 : ∀ o, (w.alloc o).cell? ⟨p, 4, none⟩ = some (.int .i64 seq) := fun o => (h.box.alloc o).cell 4
 have hp : p < w.heap.size := h.box.lt
 try dsimp only at hp
 dsimp only at hroom
 go_enter Tryz.func41, Tryz.ntmps41
 go_wp2_with (go_at_call 58; refine (CN.out _ ((Below.refl _ w).alloc (Nat.le_refl _) _)).mono ?_; rintro e w1 ⟨rfl, rfl⟩)
 go_region
 go_wp2_with fail
 refine (CK.out _).mono ?_
 clear CK;rintro e w2 ⟨rfl, hb2⟩
 have hB2 : Below w.heap.size w w2 := ((((Below.refl _ w).alloc (Nat.le_refl _) _).alloc (by simp) _).drew).trans (hb2.mono (by simp; omega))
 have hDid2 := ((Blk.new w #[.slice none 0 0, .slice none 0 0] 53).alloc (.cells #[.int .i64 3, .string ⟨client.toArray⟩, .int .i64 seq, .int .i64 0, .string ⟨topic.toArray⟩, .string ⟨body.toArray⟩, .int .i64 qos, .bool retain, .int .i64 1] 33)).drew.below hb2
 clear hb2 c1 c4 CN;have hp2 : p ≠ w.heap.size := by omega
 have HO2 := hid (h.below hB2)
 have k6 : w2.cell? ⟨p, 6, none⟩ = some (.slice al l.length cl) := HO2.out.box.cell 6
 have k3 : w2.cell? ⟨p, 3, none⟩ = some (.int .i64 room) := HO2.out.box.cell 3
 have d1 : decide (room <= (l.length : Int)) = true := decide_eq_true (by omega)
 go_wp2_with fail
 go_region
 clear k6 k3;have k0 := hDid2.cell 0
 have k1 := hDid2.cell 1
 try dsimp only at k0 k1
 have b0 := hDid2.frozen 0
 have b1 := hDid2.frozen 1
 go_wp2
 refine bodyPost_gen (fun W' => W'.cell? ⟨w.heap.size, 0, none⟩ = some (.slice none 0 0) /\ W'.cell? ⟨w.heap.size, 1, none⟩ = some (.slice none 0 0) /\ Below w.heap.size w W') ⟨((hDid2.drew.set 0 _).set 1 _).cell 0, ((hDid2.drew.set 0 _).set 1 _).cell 1, (hB2.drew.setCell (Nat.le_refl _) _).setCell (Nat.le_refl _) _⟩ ?_
 rintro W' ⟨e0, e1, hW⟩
 exact bodyPost_ret (v := .tuple #[.agg #[.slice none 0 0, .slice none 0 0], .int .i64 150]) (by simp [results, Tryz.results41, go_sem, e0, e1]) rfl ⟨rfl, hW⟩
theorem nilFunc_nil (W : World) : (binOp .eql 164 .nilFunc .nilFunc).run Tryz.prog W = .ok (.bool true) W := by
 have h : (Op.equal 164 .nilFunc .nilFunc).run Tryz.prog W = .ok true W := by
  unfold Op.equal
  rw [show Op.maxDepth = (Op.maxDepth - 1) + 1 from rfl]
  unfold Op.equalIn
  simp [run_underlying Tryz.underlying164]
 simp [binOp, h]
theorem keys3 {x : MapEntry} {a b c : Int} {va vb vc : Value} {k : Int} {n1 n2 n3 : Nat} (hx : x ∈ [(⟨.int .i64 a, va, n1⟩ : MapEntry), ⟨.int .i64 b, vb, n2⟩, ⟨.int .i64 c, vc, n3⟩]) (h1 : k ≠ a) (h2 : k ≠ b) (h3 : k ≠ c) : ∃ d, x.key = .int .i64 d /\ d ≠ k := by
 simp only [List.mem_cons, List.not_mem_nil, or_false] at hx
 rcases hx with rfl | rfl | rfl
 ·exact ⟨a, rfl, Ne.symm h1⟩
 ·exact ⟨b, rfl, Ne.symm h2⟩
 ·exact ⟨c, rfl, Ne.symm h3⟩
theorem out_Hear_bad {w : World} {B : Nat} {L : Lay} {s : OS} {ps : List PackV} {cs : List ChangeV} (h : OB w B L s ps cs) (k z : Int) (hk : ¬ ((k = 4 \/ k = 5 \/ k = 7) /\ 1 <= z /\ z <= 65535)) :
  Calls Tryz.prog 43 #[.pointer (some ⟨L.p, 0, none⟩), .int .i64 k, .int .i64 z] w fun e w' => e = .returned (.tuple #[.agg #[.slice none 0 0, .slice none 0 0], .int .i64 2]) /\ Below w.heap.size w w' := by
 have CN := hid fun (w1 : World) (hb : Below w.heap.size w w1) => out_none (h.below hb)
 have hmm := @run_makeMap Tryz.prog
 have hb0 : ((w.alloc (.cells #[.slice none 0 0, .slice none 0 0] 53)).alloc (.map #[] 0)).heap[w.heap.size + 1]? = some (.map #[] 0) := by simpa using World.alloc_heap_new (w.alloc (.cells #[.slice none 0 0, .slice none 0 0] 53)) (.map #[] 0)
 have B0 : Below w.heap.size w ((w.alloc (.cells #[.slice none 0 0, .slice none 0 0] 53)).alloc (.map #[] 0)) := ((Below.refl _ w).alloc (Nat.le_refl _) _).alloc (by simp) _
 have D0 := (Blk.new w #[.slice none 0 0, .slice none 0 0] 53).alloc (.map #[] 0)
 have Z0 : ((w.alloc (.cells #[.slice none 0 0, .slice none 0 0] 53)).alloc (.map #[] 0)).heap.size ≥ w.heap.size + 2 := by simp
 by_cases hkk : k = 4 \/ k = 5 \/ k = 7
 ·have hz : ¬ (1 <= z /\ z <= 65535) := fun hz => hk ⟨hkk, hz⟩
  have hnil := func_not_nil
  by_cases hz1 : z < 1
  ·have dz : decide (z < 1) = true := decide_eq_true hz1
   rcases hkk with rfl | rfl | rfl
   ·skip
    go_enter Tryz.func43, Tryz.ntmps43
    go_wp2_with (
     refine wpList_insert_new _ rfl _ _ _ 166 rfl 41 164 .i64 Tryz.underlying166 Tryz.underlying41 _ _ _ rfl (by with_reducible assumption) _ _ rfl rfl (by simp [putE]) ?_
     intro w1 hb1 hg1
     replace B0 := B0.grown hg1 B0.size (fun k hk => by cases hk; omega)
     replace D0 := D0.keep (hg1.block _ (by omega) (by simp))
     replace Z0 := Nat.le_trans Z0 hg1.size
     try (have HL := run_lookup_at (P := Tryz.prog) 166 41 164 .i64 Tryz.underlying166 Tryz.underlying41 _ _ _ _ hb1 4 _ 0 rfl false)
     clear hg1)
    exact bk_Act_badend1
   ·skip
    go_enter Tryz.func43, Tryz.ntmps43
    go_wp2_with (
     refine wpList_insert_new _ rfl _ _ _ 166 rfl 41 164 .i64 Tryz.underlying166 Tryz.underlying41 _ _ _ rfl (by with_reducible assumption) _ _ rfl rfl (by simp [putE]) ?_
     intro w1 hb1 hg1
     replace B0 := B0.grown hg1 B0.size (fun k hk => by cases hk; omega)
     replace D0 := D0.keep (hg1.block _ (by omega) (by simp))
     replace Z0 := Nat.le_trans Z0 hg1.size
     try (have HL := run_lookup_at (P := Tryz.prog) 166 41 164 .i64 Tryz.underlying166 Tryz.underlying41 _ _ _ _ hb1 5 _ 1 rfl false)
     clear hg1)
    exact bk_Act_badend1
   ·skip
    go_enter Tryz.func43, Tryz.ntmps43
    go_wp2_with (
     refine wpList_insert_new _ rfl _ _ _ 166 rfl 41 164 .i64 Tryz.underlying166 Tryz.underlying41 _ _ _ rfl (by with_reducible assumption) _ _ rfl rfl (by simp [putE]) ?_
     intro w1 hb1 hg1
     replace B0 := B0.grown hg1 B0.size (fun k hk => by cases hk; omega)
     replace D0 := D0.keep (hg1.block _ (by omega) (by simp))
     replace Z0 := Nat.le_trans Z0 hg1.size
     try (have HL := run_lookup_at (P := Tryz.prog) 166 41 164 .i64 Tryz.underlying166 Tryz.underlying41 _ _ _ _ hb1 7 _ 2 rfl false)
     clear hg1)
    exact bk_Act_badend1
  ·have dz : decide (z < 1) = false := decide_eq_false hz1
   have dz2 : decide (65535 < z) = true := decide_eq_true (by omega)
   rcases hkk with rfl | rfl | rfl
   ·skip
    go_enter Tryz.func43, Tryz.ntmps43
    go_wp2_with (
     refine wpList_insert_new _ rfl _ _ _ 166 rfl 41 164 .i64 Tryz.underlying166 Tryz.underlying41 _ _ _ rfl (by with_reducible assumption) _ _ rfl rfl (by simp [putE]) ?_
     intro w1 hb1 hg1
     replace B0 := B0.grown hg1 B0.size (fun k hk => by cases hk; omega)
     replace D0 := D0.keep (hg1.block _ (by omega) (by simp))
     replace Z0 := Nat.le_trans Z0 hg1.size
     try (have HL := run_lookup_at (P := Tryz.prog) 166 41 164 .i64 Tryz.underlying166 Tryz.underlying41 _ _ _ _ hb1 4 _ 0 rfl false)
     clear hg1)
    exact bk_Act_badend1
   ·skip
    go_enter Tryz.func43, Tryz.ntmps43
    go_wp2_with (
     refine wpList_insert_new _ rfl _ _ _ 166 rfl 41 164 .i64 Tryz.underlying166 Tryz.underlying41 _ _ _ rfl (by with_reducible assumption) _ _ rfl rfl (by simp [putE]) ?_
     intro w1 hb1 hg1
     replace B0 := B0.grown hg1 B0.size (fun k hk => by cases hk; omega)
     replace D0 := D0.keep (hg1.block _ (by omega) (by simp))
     replace Z0 := Nat.le_trans Z0 hg1.size
     try (have HL := run_lookup_at (P := Tryz.prog) 166 41 164 .i64 Tryz.underlying166 Tryz.underlying41 _ _ _ _ hb1 5 _ 1 rfl false)
     clear hg1)
    exact bk_Act_badend1
   ·skip
    go_enter Tryz.func43, Tryz.ntmps43
    go_wp2_with (
     refine wpList_insert_new _ rfl _ _ _ 166 rfl 41 164 .i64 Tryz.underlying166 Tryz.underlying41 _ _ _ rfl (by with_reducible assumption) _ _ rfl rfl (by simp [putE]) ?_
     intro w1 hb1 hg1
     replace B0 := B0.grown hg1 B0.size (fun k hk => by cases hk; omega)
     replace D0 := D0.keep (hg1.block _ (by omega) (by simp))
     replace Z0 := Nat.le_trans Z0 hg1.size
     try (have HL := run_lookup_at (P := Tryz.prog) 166 41 164 .i64 Tryz.underlying166 Tryz.underlying41 _ _ _ _ hb1 7 _ 2 rfl false)
     clear hg1)
    exact bk_Act_badend1
 ·have hnil := nilFunc_nil
  have e4 : k ≠ 4 := by omega
  have e5 : k ≠ 5 := by omega
  have e7 : k ≠ 7 := by omega
  go_enter Tryz.func43, Tryz.ntmps43
  go_wp2_with (
   refine wpList_insert_new _ rfl _ _ _ 166 rfl 41 164 .i64 Tryz.underlying166 Tryz.underlying41 _ _ _ rfl (by with_reducible assumption) _ _ rfl rfl (by simp [putE]) ?_
   intro w1 hb1 hg1
   replace B0 := B0.grown hg1 B0.size (fun k hk => by cases hk; omega)
   replace D0 := D0.keep (hg1.block _ (by omega) (by simp))
   replace Z0 := Nat.le_trans Z0 hg1.size
   try (have HL := run_lookup_not (P := Tryz.prog) 166 41 164 .i64 Tryz.underlying166 Tryz.underlying41 _ _ _ _ .nilFunc (by kernel_rfl) hb1 k (fun x hx => keys3 hx e4 e5 e7) false)
   clear hg1)
  exact bk_Act_badend1
end
section
def refA (v : Value) : Array Value := #[.string ⟨#[]⟩, .int .i64 0, .int .i64 0, .int .i64 0, .int .i64 0, .slice none 0 0, v, .slice none 0 0]
def rowZ : Array Value := #[.int .i64 1, .string ⟨#[]⟩, .int .i64 0, .int .i64 0, .string ⟨#[]⟩, .string ⟨#[]⟩, .int .i64 0, .bool false, .int .i64 0]
theorem r_Session (a : Option Addr) (n c : Nat) (w : World) :
  Calls Tryz.prog 93 #[.agg (refA (.slice a n c))] w fun e w' => e = .returned (.agg rowZ) /\ Below w.heap.size w w' := by
 unfold refA
 go_enter Tryz.func93, Tryz.ntmps93
 go_wp2
 go_returns
 refine ⟨rfl, ?_⟩
 exact belw
theorem r_send (a : Option Addr) (n c : Nat) (w : World) :
  Calls Tryz.prog 96 #[.agg (refA (.slice a n c))] w fun e w' => e = .returned (.agg (refA (.slice a n c))) /\ Below w.heap.size w w' := by
 unfold refA
 go_enter Tryz.func96, Tryz.ntmps96
 go_wp2
 go_loopw [3] (fun i wr => i = .int .i64 0 /\ wr = ((w.alloc (.cells (refA (.slice a n c)) 38)).alloc (.cells (refA (.slice none 0 0)) 38))) (fun _ _ => 0)
 case atStart => exact ⟨rfl, rfl⟩
 case round =>
  obtain ⟨rfl, rfl⟩ := hrel
  unfold refA
  go_wp2
  change bodyPost Tryz.prog Tryz.f96 _ _ _ _
  refine bodyPost_ret (v := .agg #[.string ⟨#[]⟩, .int .i64 0, .int .i64 0, .int .i64 0, .int .i64 0, .slice none 0 0, .slice a n c, .slice none 0 0]) (by simp [results, Tryz.results96, go_sem]) rfl ⟨rfl, ?_⟩
  exact belw
theorem r_find (z : Int) (w : World) :
  Calls Tryz.prog 97 #[.agg (refA (.slice none 0 0)), .int .i64 z] w fun e w' => e = .returned (.int .i64 (-1)) /\ Below w.heap.size w w' := by
 unfold refA
 go_enter Tryz.func97, Tryz.ntmps97
 go_wp2
 go_loopw [5] (fun i wr => i = .int .i64 0 /\ wr = (w.alloc (.cells (refA (.slice none 0 0)) 38))) (fun _ _ => 0)
 case atStart => exact ⟨rfl, rfl⟩
 case round =>
  obtain ⟨rfl, rfl⟩ := hrel
  unfold refA
  go_wp2
  go_ret
  refine ⟨rfl, ?_⟩
  exact belw
def didA (v : Value) : Value := .agg #[v, .slice none 0 0]
theorem r_done (a : Option Addr) (n c : Nat) (w : World) :
  Calls Tryz.prog 95 #[.agg (refA (.slice a n c)), .agg rowZ] w fun e w' => e = .returned (.tuple #[.agg (refA (.slice none 0 0)), didA (.slice a n c)]) /\ Below w.heap.size w w' := by
 have CS := hid (r_Session a n c)
 unfold refA rowZ at *
 unfold didA
 go_enter Tryz.func95, Tryz.ntmps95
 go_wp2_with fail
 obtain ⟨W, hW⟩ : ∃ W, W = ((((w.alloc (.cells #[.string ⟨#[]⟩, .int .i64 0, .int .i64 0, .int .i64 0, .int .i64 0, .slice none 0 0, .slice a n c, .slice none 0 0] 38)).alloc (.cells #[.int .i64 1, .string ⟨#[]⟩, .int .i64 0, .int .i64 0, .string ⟨#[]⟩, .string ⟨#[]⟩, .int .i64 0, .bool false, .int .i64 0] 33)).alloc (.cells #[.string ⟨#[]⟩, .int .i64 0, .int .i64 0, .int .i64 0, .int .i64 0, .slice none 0 0, .slice none 0 0, .slice none 0 0] 38)).alloc (.cells #[.slice none 0 0, .slice none 0 0] 53)) := ⟨_, rfl⟩
 have B0 : Blk W w.heap.size #[.string ⟨#[]⟩, .int .i64 0, .int .i64 0, .int .i64 0, .int .i64 0, .slice none 0 0, .slice a n c, .slice none 0 0] 38 := by rw [hW]; exact (((Blk.new w _ _).alloc _).alloc _).alloc _
 have B1 : Blk W (w.heap.size + 1) #[.int .i64 1, .string ⟨#[]⟩, .int .i64 0, .int .i64 0, .string ⟨#[]⟩, .string ⟨#[]⟩, .int .i64 0, .bool false, .int .i64 0] 33 := by rw [hW]; exact ((Blk.new_at _ _ _ _ (by simp)).alloc _).alloc _
 have B2 : Blk W (w.heap.size + 1 + 1) #[.string ⟨#[]⟩, .int .i64 0, .int .i64 0, .int .i64 0, .int .i64 0, .slice none 0 0, .slice none 0 0, .slice none 0 0] 38 := by rw [hW]; exact (Blk.new_at _ _ _ _ (by simp)).alloc _
 have B3 : Blk W (w.heap.size + 1 + 1 + 1) #[.slice none 0 0, .slice none 0 0] 53 := by rw [hW]; exact Blk.new_at _ _ _ _ (by simp)
 have B4 : Below w.heap.size w W := by
  rw [hW]
  exact belw
 rw [<- hW]
 clear hW;refine regionQ [(1000, fun w' => Blk w' w.heap.size #[.string ⟨#[]⟩, .int .i64 0, .int .i64 0, .int .i64 0, .int .i64 0, .slice none 0 0, .slice a n c, .slice none 0 0] 38), (1000, fun w' => Blk w' (w.heap.size + 1) #[.int .i64 1, .string ⟨#[]⟩, .int .i64 0, .int .i64 0, .string ⟨#[]⟩, .string ⟨#[]⟩, .int .i64 0, .bool false, .int .i64 0] 33)] (by kernel_rfl) ⟨B0, B1, trivial⟩ fun KQ hKQ => ?_
 refine lR 0 0 rfl rfl rfl rfl (fun w' hf => run_load_blk hf 38 Tryz.underlying38 rfl (by kernel_rfl)) ?_
 simp only [PT];refine lR 2 1 rfl rfl rfl rfl (fun w' hf => run_load_blk hf 33 Tryz.underlying33 rfl (by kernel_rfl)) ?_
 simp only [PT];refine sQ 1 fun K hK => ?_;simp only [GO];go_simp;refine (CS.out _).mono ?_
 rintro e w1 ⟨rfl, hb1⟩
 have B4 := B4.drew.trans (hb1.mono B4.drew.size)
 have B0 := B0.drew.below hb1
 have B1 := B1.drew.below hb1
 have B2 := B2.drew.below hb1
 have B3 := B3.drew.below hb1
 refine hK _ _ ⟨⟨fun _ => B0, fun _ => B1, trivial⟩, ?_⟩
 clear hK K;refine tQ [3] ?_;refine dQ (hKQ.out _ _ ?_);clear hKQ KQ;clear B1;have k6 : w1.cell? ⟨w.heap.size, 6, none⟩ = some (.slice a n c) := B0.cell 6
 have k7 : w1.cell? ⟨w.heap.size, 7, none⟩ = some (.slice none 0 0) := B0.cell 7
 have lt0 : w.heap.size < w1.heap.size := B0.lt
 have B0 := hid B0;have B2 := hid B2;have B3 := hid B3;have B4 := hid B4
 go_wp2_with (
  refine wS 53 2 rfl w1.heap.size _ #[.slice a n c, .slice none 0 0] rfl rfl (Blk.new w1 _ _) rfl rfl (by simp [Value.oneCell']) fun w2 hb2 hw2 => ?_
  have B5 := hid hb2;have lt2 : w.heap.size ∉ [w1.heap.size] := by simp; omega
  have q6 : w2.cell? ⟨w.heap.size, 6, none⟩ = some (.slice a n c) := ((B0.out.alloc _).wrote hw2 lt2).cell 6
  have q7 : w2.cell? ⟨w.heap.size, 7, none⟩ = some (.slice none 0 0) := ((B0.out.alloc _).wrote hw2 lt2).cell 7
  have z6 := ((B0.out.alloc _).wrote hw2 lt2).frozen 6
  have z7 := ((B0.out.alloc _).wrote hw2 lt2).frozen 7
  have hw2 := hid hw2)
 obtain ⟨W4, hW4⟩ : ∃ W4, W4 = (w2.setCell ⟨w.heap.size, 6, none⟩ (.slice none 0 0)).setCell ⟨w.heap.size, 7, none⟩ (.slice none 0 0) := ⟨_, rfl⟩
 rw [<- hW4]
 have hw4 : Wrote [w.heap.size, w1.heap.size] w1 W4 := by
  rw [hW4]
  exact ((((Wrote.refl [w.heap.size, w1.heap.size] w1).trans (Wrote.of_below ((Below.refl _ w1).alloc (Nat.le_refl _) _))).trans (hw2.out.sub (by simp))).trans (Wrote.setCell w2 _ (by simp) _)).trans (Wrote.setCell _ _ (by simp) _)
 have C0 : Blk W4 w.heap.size #[.string ⟨#[]⟩, .int .i64 0, .int .i64 0, .int .i64 0, .int .i64 0, .slice none 0 0, .slice none 0 0, .slice none 0 0] 38 := by
  rw [hW4]
  exact ((((B0.out.alloc _).wrote hw2.out lt2).set 6 _).set 7 _)
 have C5 : Blk W4 w1.heap.size #[.slice a n c, .slice none 0 0] 53 := by
  rw [hW4]
  exact (B5.out.set_ne ⟨w.heap.size, 6, none⟩ (by simp; omega) _).set_ne ⟨w.heap.size, 7, none⟩ (by simp; omega) _
 have n2 : w.heap.size + 1 + 1 < w1.heap.size := B2.out.lt
 have n3 : w.heap.size + 1 + 1 + 1 < w1.heap.size := B3.out.lt
 have C2 := hid (B2.out.wrote hw4 (by simp; omega))
 have C3 := hid (B3.out.wrote hw4 (by simp; omega))
 have C4 := hid (below_wrote B4.out hw4 (by simp; omega))
 clear hW4;refine regionQ [(1000, fun w' => Blk w' w.heap.size #[.string ⟨#[]⟩, .int .i64 0, .int .i64 0, .int .i64 0, .int .i64 0, .slice none 0 0, .slice none 0 0, .slice none 0 0] 38), (1000, fun w' => Blk w' w1.heap.size #[.slice a n c, .slice none 0 0] 53)] (by kernel_rfl) ⟨C0, C5, trivial⟩ fun KQ hKQ => ?_
 refine lR 0 0 rfl rfl rfl rfl (fun w' hf => run_load_blk hf 38 Tryz.underlying38 rfl (by kernel_rfl)) ?_
 simp only [PT];refine lR 1 1 rfl rfl rfl rfl (fun w' hf => run_load_blk hf 53 Tryz.underlying53 rfl (by kernel_rfl)) ?_
 simp only [PT];refine sQ 2 fun K hK => ?_;simp only [GO];refine wW 38 8 rfl (w.heap.size + 1 + 1) _ #[.string ⟨#[]⟩, .int .i64 0, .int .i64 0, .int .i64 0, .int .i64 0, .slice none 0 0, .slice none 0 0, .slice none 0 0] rfl rfl C2.out.drew rfl rfl (by simp [Value.oneCell']) fun w5 h5 g5 => ?_
 have D0 := C0.drew.wrote g5 (by simp; omega)
 have D5 := C5.drew.wrote g5 (by simp; omega)
 have D3 := C3.out.drew.wrote g5 (by simp)
 have D4 := below_wrote C4.out.drew g5 (by simp; omega)
 refine hK _ _ ⟨⟨fun _ => D0, fun _ => D5, trivial⟩, ?_⟩
 clear hK K;refine sQ 3 fun K hK => ?_;simp only [GO];refine wW 53 2 rfl (w.heap.size + 1 + 1 + 1) _ #[.slice a n c, .slice none 0 0] rfl rfl D3 rfl rfl (by simp [Value.oneCell']) fun w6 h6 g6 => ?_
 have E0 := D0.wrote g6 (by simp; omega)
 have E5 := D5.wrote g6 (by simp; omega)
 have E2 := h5.wrote g6 (by simp)
 have E4 := below_wrote D4 g6 (by simp; omega)
 refine hK _ _ ⟨⟨fun _ => E0, fun _ => E5, trivial⟩, ?_⟩
 clear hK K;refine dQ (hKQ.out _ _ ?_);clear hKQ KQ;go_wp2
 change bodyPost Tryz.prog Tryz.f95 _ _ _ _
 refine bodyPost_ret (v := .tuple #[.agg #[.string ⟨#[]⟩, .int .i64 0, .int .i64 0, .int .i64 0, .int .i64 0, .slice none 0 0, .slice none 0 0, .slice none 0 0], .agg #[.slice a n c, .slice none 0 0]]) ?_ rfl ⟨rfl, E4⟩
 have l1 := run_loadVar_blk (P := Tryz.prog) E2 38 Tryz.underlying38 rfl (by kernel_rfl)
 have l2 := run_loadVar_blk (P := Tryz.prog) h6 53 Tryz.underlying53 rfl (by kernel_rfl)
 exact results_cc Tryz.results95 rfl rfl l1 l2
def zA : Array Value := #[.string ⟨#[]⟩, .int .i64 0, .int .i64 0, .int .i64 0, .int .i64 0, .slice none 0 0, .slice none 0 0, .slice none 0 0]
theorem r_Anew (w : World) :
  Calls Tryz.prog 49 #[.agg (refA (.slice none 0 0))] w fun e w' => e = .returned (.tuple #[.agg (refA (.slice none 0 0)), didA (.slice none 0 0)]) /\ Below w.heap.size w w' := by
 have CS := hid (r_Session none 0 0)
 have CE := hid (r_send none 0 0)
 have CD := hid (r_done none 0 0)
 unfold refA rowZ didA at *
 go_enter Tryz.func49, Tryz.ntmps49
 go_wp2_with fail
 obtain ⟨W, hW⟩ : ∃ W, W = (((w.alloc (.cells #[.string ⟨#[]⟩, .int .i64 0, .int .i64 0, .int .i64 0, .int .i64 0, .slice none 0 0, .slice none 0 0, .slice none 0 0] 38)).alloc (.cells #[.string ⟨#[]⟩, .int .i64 0, .int .i64 0, .int .i64 0, .int .i64 0, .slice none 0 0, .slice none 0 0, .slice none 0 0] 38)).alloc (.cells #[.slice none 0 0, .slice none 0 0] 53)) := ⟨_, rfl⟩
 have B0 : Blk W w.heap.size zA 38 := by rw [hW]; exact ((Blk.new w _ _).alloc _).alloc _
 have B2 : Blk W (w.heap.size + 1) zA 38 := by rw [hW]; exact (Blk.new_at _ _ _ _ (by simp)).alloc _
 have B3 : Blk W (w.heap.size + 1 + 1) #[.slice none 0 0, .slice none 0 0] 53 := by rw [hW]; exact Blk.new_at _ _ _ _ (by simp)
 have B4 : Below w.heap.size w W := by
  rw [hW]
  exact belw
 rw [<- hW]
 clear hW;refine (CS.out _).mono ?_
 rintro e w1 ⟨rfl, hb1⟩
 replace B4 := B4.trans (hb1.mono B4.size)
 replace B0 := B0.below hb1
 replace B2 := B2.below hb1
 replace B3 := B3.below hb1
 clear hb1 W;obtain ⟨W, hW⟩ : ∃ W, W = w1 := ⟨_, rfl⟩
 subst hW;have lt0 : w.heap.size < W.heap.size := B0.lt
 have b2 : w.heap.size + 1 < W.heap.size := B2.lt
 have b3 : w.heap.size + 1 + 1 < W.heap.size := B3.lt
 go_wp2_with (
  refine wS 33 9 rfl W.heap.size _ #[.int .i64 1, .string ⟨#[]⟩, .int .i64 0, .int .i64 0, .string ⟨#[]⟩, .string ⟨#[]⟩, .int .i64 0, .bool false, .int .i64 0] rfl rfl (Blk.new W _ _) rfl rfl (by simp [Value.oneCell']) fun w2 hb2 hw2 => ?_
  have C1 := hb2
  have C0 := (B0.alloc _).wrote hw2 (by simp; omega)
  have C2 := (B2.alloc _).wrote hw2 (by simp; omega)
  have C3 := (B3.alloc _).wrote hw2 (by simp; omega)
  have C4 := below_wrote (B4.alloc B4.size _) hw2 (by simp; omega)
  clear hw2 hb2)
 have B0 := hid C0; have B1 := hid C1; have B2 := hid C2; have B3 := hid C3; have B4 := hid C4
 have k5 : w2.cell? ⟨w.heap.size, 5, none⟩ = some (.slice none 0 0) := C0.cell 5
 clear C0 C1 C2 C3 C4;go_loopw [5] (fun i wr => i = .int .i64 0 /\ wr = w2) (fun _ _ => 0)
 case atStart => exact ⟨rfl, rfl⟩
 case round =>
  obtain ⟨rfl, rfl⟩ := hrel
  go_wp2
  have C0 := B0.out; have C1 := B1.out; have C2 := B2.out; have C3 := B3.out; have C4 := B4.out
  refine regionQ [(1000, fun w' => Blk w' w.heap.size #[.string ⟨#[]⟩, .int .i64 0, .int .i64 0, .int .i64 0, .int .i64 0, .slice none 0 0, .slice none 0 0, .slice none 0 0] 38), (1000, fun w' => Blk w' W.heap.size #[.int .i64 1, .string ⟨#[]⟩, .int .i64 0, .int .i64 0, .string ⟨#[]⟩, .string ⟨#[]⟩, .int .i64 0, .bool false, .int .i64 0] 33)] (by kernel_rfl) ⟨C0, C1, trivial⟩ fun KQ hKQ => ?_
  refine lR 0 0 rfl rfl rfl rfl (fun w' hf => run_load_blk hf 38 Tryz.underlying38 rfl (by kernel_rfl)) ?_
  simp only [PT];refine lR 2 1 rfl rfl rfl rfl (fun w' hf => run_load_blk hf 33 Tryz.underlying33 rfl (by kernel_rfl)) ?_
  simp only [PT];refine sQ 1 fun K hK => ?_;simp only [GO];go_simp;refine (CE.out _).mono ?_
  rintro e w3 ⟨rfl, hb3⟩
  replace C4 := C4.drew.trans (hb3.mono C4.drew.size)
  replace C0 := C0.drew.below hb3
  replace C1 := C1.drew.below hb3
  replace C2 := C2.drew.below hb3
  replace C3 := C3.drew.below hb3
  clear hb3;refine hK _ _ ⟨⟨fun _ => C0, fun _ => C1, trivial⟩, ?_⟩
  clear hK K;refine sQ 3 fun K hK => ?_;simp only [GO];go_simp;refine (CD.out _).mono ?_
  rintro e w4 ⟨rfl, hb4⟩
  replace C4 := C4.trans (hb4.mono C4.size)
  replace C0 := C0.below hb4
  replace C1 := C1.below hb4
  replace C2 := C2.below hb4
  replace C3 := C3.below hb4
  clear hb4;refine hK _ _ ⟨⟨fun _ => C0, fun _ => C1, trivial⟩, ?_⟩
  clear hK K;refine tQ [4, 5] ?_;refine sQ 6 fun K hK => ?_;simp only [GO];refine wW 38 8 rfl (w.heap.size + 1) _ #[.string ⟨#[]⟩, .int .i64 0, .int .i64 0, .int .i64 0, .int .i64 0, .slice none 0 0, .slice none 0 0, .slice none 0 0] rfl rfl C2 rfl rfl (by simp [Value.oneCell']) fun w5 h5 g5 => ?_
  have D0 := C0.wrote g5 (by simp)
  have D1 := C1.wrote g5 (by simp; omega)
  have D3 := C3.wrote g5 (by simp)
  have D4 := below_wrote C4 g5 (by simp)
  refine hK _ _ ⟨⟨fun _ => D0, fun _ => D1, trivial⟩, ?_⟩
  clear hK K;refine sQ 7 fun K hK => ?_;simp only [GO];refine wW 53 2 rfl (w.heap.size + 1 + 1) _ #[.slice none 0 0, .slice none 0 0] rfl rfl D3 rfl rfl (by simp [Value.oneCell']) fun w6 h6 g6 => ?_
  have E0 := D0.wrote g6 (by simp; omega)
  have E1 := D1.wrote g6 (by simp; omega)
  have E2 := h5.wrote g6 (by simp)
  have E4 := below_wrote D4 g6 (by simp; omega)
  refine hK _ _ ⟨⟨fun _ => E0, fun _ => E1, trivial⟩, ?_⟩
  clear hK K;refine dQ (hKQ.out _ _ ?_);clear hKQ KQ;go_wp2
  change bodyPost Tryz.prog Tryz.f49 _ _ _ _
  refine bodyPost_ret (v := .tuple #[.agg #[.string ⟨#[]⟩, .int .i64 0, .int .i64 0, .int .i64 0, .int .i64 0, .slice none 0 0, .slice none 0 0, .slice none 0 0], .agg #[.slice none 0 0, .slice none 0 0]]) ?_ rfl ⟨rfl, E4⟩
  have l1 := run_loadVar_blk (P := Tryz.prog) E2 38 Tryz.underlying38 rfl (by kernel_rfl)
  have l2 := run_loadVar_blk (P := Tryz.prog) h6 53 Tryz.underlying53 rfl (by kernel_rfl)
  exact results_cc Tryz.results49 rfl rfl l1 l2
end
end Go.Proofs.YtoinabapaeebfaaGreatDoor
