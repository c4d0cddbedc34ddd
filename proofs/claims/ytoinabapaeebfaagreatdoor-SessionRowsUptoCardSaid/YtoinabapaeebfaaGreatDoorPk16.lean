/- Parts of the proof of SessionRows: contracts of functions that it reaches, and plain lemmas. No condition of their own. -/
import Derived.Test.YtoinabapaeebfaaGreatDoorPk12
import Derived.Test.YtoinabapaeebfaaGreatDoorPk15
import Derived.Test.YtoinabapaeebfaaGreatDoorPk08
set_option linter.unusedSimpArgs false
set_option linter.unusedVariables false
set_option maxRecDepth 100000
set_option maxHeartbeats 8000000
namespace Go.Proofs.YtoinabapaeebfaaGreatDoor
open Go.RowKit Go.Shelf
section
def stageOK (r : RowV) : Prop := r.stage = 1 /\ r.id = 0 \/ (1 <= r.id /\ r.id <= 65535) /\ (r.stage = 2 \/ r.stage = 3 /\ r.qos = 2)
theorem kinds7_good (r : RowV) (w : World) (hs : (1 <= r.id /\ r.id <= 65535) /\ (r.stage = 2 \/ r.stage = 3 /\ r.qos = 2)) (hm : putMay r = true) (hc : r.client.length <= 9223372036854775807) (ht : r.topic.length <= 9223372036854775807) (hA : AnyOK r.topic) :
  Calls Tryz.prog 159 #[.agg r.vals] w fun e w' => e = .returned (.bool true) /\ Below w.heap.size w w' := by
 obtain ⟨kind, client, seq, id, topic, body, qos, retain, stage⟩ := r
 simp only at hs hc ht hA
 unfold putMay at hm
 simp only [Bool.and_eq_true] at hm
 obtain ⟨⟨⟨⟨hbc, hbs⟩, hbn⟩, hbb⟩, hbq⟩ := hm
 have CC := fun w => rec_client client w hc
 rw [hbc] at CC
 have CN := fun w => topic_Name topic w ht hA
 rw [hbn] at CN
 have CS := rec_within_b seq 0 4611686018427387904 true (by simpa using hbs)
 have CQ := rec_within_b qos 1 2 true (by simpa using hbq)
 have CI := rec_within_b id 1 65535 true (by simpa using hs.1)
 have hsz : ByteArray.size ⟨body.toArray⟩ = body.length := by simp [ByteArray.size]
 have HCC := hid CC;have HCN := hid CN;have HCS := hid CS;have HCQ := hid CQ;have HCI := hid CI;have hle : (body.length : Int) <= 2000 := of_decide_eq_true hbb
 clear CC CN CS CQ CI hbc hbs hbn hbq hc ht hA hbb;unfold RowV.vals
 obtain ⟨hi, rfl | ⟨rfl, rfl⟩⟩ := hs
 all_goals
  clear hi;go_enter Tryz.func159, Tryz.ntmps159
  go_wp2_with (first
   | (go_at_call 150; refine (HCC.out _).mono ?_; rintro e w1 ⟨rfl, hb⟩; have c2 := cellB hb (j := 2) rfl; have c4 := cellB hb (j := 4) rfl)
   | (go_at_call 63; refine (HCN.out _).mono ?_; rintro e w2 ⟨rfl, hb2⟩; replace hb := hb.trans (hb2.mono hb.size); have c5 := cellB hb (j := 5) rfl; have c6 := cellB hb (j := 6) rfl)
   | (go_at_call 151; refine (HCI.out _).mono ?_; rintro e w3 ⟨rfl, rfl⟩; clear HCI)
   | (go_at_call 151; refine (HCS.out _).mono ?_; rintro e w3 ⟨rfl, rfl⟩; clear HCS)
   | (go_at_call 151; refine (HCQ.out _).mono ?_; rintro e w3 ⟨rfl, rfl⟩))
  go_ret
  refine ⟨rfl, ?_⟩
  first | exact (Below.refl _ _).alloc (Nat.le_refl _) _ |>.trans (hb.mono (by simp)) | exact ((Below.refl w.heap.size w).alloc (Nat.le_refl _) _).trans (hb.mono (by simp))
theorem rec_Check_out (r : RowV) (w : World) (hkd : r.kind = 3) (bm : Bool) (hC : ∀ w, Calls Tryz.prog 159 #[.agg r.vals] w fun e w' => e = .returned (.bool bm) /\ Below w.heap.size w w') :
  Calls Tryz.prog 53 #[.agg r.vals] w fun e w' => e = .returned (.int .i64 (if bm then 0 else 2)) /\ Below w.heap.size w w' := by
 have C7 := hid hC;have C8 := hid fun w => kinds8 r w
 have CK := hid rec_kinds;clear hC;obtain ⟨kind, client, seq, id, topic, body, qos, retain, stage⟩ := r
 simp only at hkd
 subst hkd;unfold RowV.vals at *
 go_enter Tryz.func53, Tryz.ntmps53
 go_wp2
 refine regionQ [(1000, fun w' => w'.cell? ⟨w.heap.size, 0, none⟩ = some (.int .i64 3))] (by kernel_rfl) ⟨by go_simp, trivial⟩ fun KQ hKQ => ?_
 refine tQ [1] ?_;refine lQ 2 0 ?_;refine stepQ2 0 7 rfl rfl (by kernel_rfl) (by decide) (by kernel_rfl) (by kernel_rfl) (fun K hK => ?_) (fun K hK => ?_)
 ·try simp only [GO]
  go_simp;refine (CK.out _).mono ?_
  rintro e w1 ⟨rfl, hm, hb⟩
  replace hb := undrew hb
  replace hm : w1.heap[w.heap.size + 1]? = some (.map kindsE 5) := by simpa using hm
  have hlt : w.heap.size + 1 < w1.heap.size := by
   rcases Nat.lt_or_ge (w.heap.size + 1) w1.heap.size with h | h
   ·exact h
   ·rw [Array.getElem?_eq_none h] at hm; cases hm
  have hm' : ∀ o, (w1.alloc o).heap[w.heap.size + 1]? = some (.map kindsE 5) := fun o => (Below.heap_alloc _ _ _ hlt).trans hm
  have HL' := fun o => run_lookup_at (P := Tryz.prog) 189 30 187 .i64 Tryz.underlying189 Tryz.underlying30 _ _ kindsE 5 (hm' o) 3 _ 2 rfl true
  have HL := run_lookup_at (P := Tryz.prog) 189 30 187 .i64 Tryz.underlying189 Tryz.underlying30 _ _ kindsE 5 hm 3 _ 2 rfl true
  simp only [kindV] at HL HL'
  refine hK _ _ ⟨⟨fun _ => cellB hb (j := 0) rfl, trivial⟩, ?_⟩
  clear hK K;refine stepQ2 3 7 rfl rfl (by kernel_rfl) (by decide) (by kernel_rfl) (by kernel_rfl) (fun K hK => ?_) (fun K hK => ?_)
  ·try simp only [GO]
   go_simp;refine hK _ _ ⟨⟨fun _ => cellB hb (j := 0) rfl, trivial⟩, ?_⟩
   clear hK K;refine tQ [4, 5, 6] ?_;refine sQ 7 fun K hK => ?_;simp only [GO];go_simp;refine hK _ _ ⟨⟨fun _ => cellB (hb.alloc hb.size _) (j := 0) rfl, trivial⟩, ?_⟩
   clear hK K;refine sQ 8 fun K hK => ?_;simp only [GO];go_simp;refine hK _ _ ⟨⟨fun _ => cellB (hb.alloc hb.size _) (j := 0) rfl, trivial⟩, ?_⟩
   clear hK K;refine sQ 9 fun K hK => ?_;simp only [GO];go_simp;refine hK _ _ ⟨⟨fun _ => cellB (hb.alloc hb.size _) (j := 0) rfl, trivial⟩, ?_⟩
   clear hK K;refine dQ (hKQ.out _ _ ?_);clear hKQ KQ;have g0 := cB hb 0 rfl
   have g1 := cB hb 1 rfl
   have g2 := cB hb 2 rfl
   have g3 := cB hb 3 rfl
   have g4 := cB hb 4 rfl
   have g5 := cB hb 5 rfl
   have g6 := cB hb 6 rfl
   have g7 := cB hb 7 rfl
   have g8 := cB hb 8 rfl
   cases bm
   ·go_wp2_with (go_at_call 159; refine (C7.out _).mono ?_; rintro e w2 ⟨rfl, hb2⟩; replace hb2 := (hb.alloc hb.size _).trans (hb2.mono (hb.alloc hb.size _).size))
    go_ret
    exact ⟨rfl, ((Below.refl w.heap.size w).alloc (Nat.le_refl _) _).trans (hb2.mono (by simp))⟩
   ·go_wp2_with (first
     | (go_at_call 159; refine (C7.out _).mono ?_; rintro e w2 ⟨rfl, hb2⟩; have f2 := cellB (w := w1) hb2 (j := 2) rfl; replace hb2 := (hb.alloc hb.size _).trans (hb2.mono (hb.alloc hb.size _).size)
        have g0 := cellB hb2 (j := 0) rfl
        have g1 := cellB hb2 (j := 1) rfl
        have g2 := cellB hb2 (j := 2) rfl
        have g3 := cellB hb2 (j := 3) rfl
        have g4 := cellB hb2 (j := 4) rfl
        have g5 := cellB hb2 (j := 5) rfl
        have g6 := cellB hb2 (j := 6) rfl
        have g7 := cellB hb2 (j := 7) rfl
        have g8 := cellB hb2 (j := 8) rfl
      )
     | (go_at_call 160; refine (C8.out _).mono ?_; rintro e w3 ⟨rfl, hb3⟩; replace hb3 := hb2.trans (hb3.mono hb2.size)
        have g0 := cB hb3 0 rfl
        have g1 := cB hb3 1 rfl
        have g2 := cB hb3 2 rfl
        have g3 := cB hb3 3 rfl
        have g4 := cB hb3 4 rfl
        have g5 := cB hb3 5 rfl
        have g6 := cB hb3 6 rfl
        have g7 := cB hb3 7 rfl
        have g8 := cB hb3 8 rfl
      ))
    go_ret
    exact ⟨rfl, (((Below.refl w.heap.size w).alloc (Nat.le_refl _) _).trans (hb3.mono (by simp))).alloc (by have := hb3.size; simp at this; omega) _⟩
  ·try simp only [GO]
   go_simp;refine hK _ _ ⟨⟨fun _ => cellB (hb.alloc hb.size _) (j := 0) rfl, trivial⟩, ?_⟩
   clear hK K;refine sQ 3 fun K hK => ?_;simp only [GO];go_simp;refine hK _ _ ⟨⟨fun _ => cellB (hb.alloc hb.size _) (j := 0) rfl, trivial⟩, ?_⟩
   clear hK K;refine tQ [4, 5, 6] ?_;refine sQ 8 fun K hK => ?_;simp only [GO];go_simp;refine hK _ _ ⟨⟨fun _ => cellB (hb.alloc hb.size _) (j := 0) rfl, trivial⟩, ?_⟩
   clear hK K;refine sQ 9 fun K hK => ?_;simp only [GO];go_simp;refine hK _ _ ⟨⟨fun _ => cellB (hb.alloc hb.size _) (j := 0) rfl, trivial⟩, ?_⟩
   clear hK K;refine dQ (hKQ.out _ _ ?_);clear hKQ KQ;have g0 := cB hb 0 rfl
   have g1 := cB hb 1 rfl
   have g2 := cB hb 2 rfl
   have g3 := cB hb 3 rfl
   have g4 := cB hb 4 rfl
   have g5 := cB hb 5 rfl
   have g6 := cB hb 6 rfl
   have g7 := cB hb 7 rfl
   have g8 := cB hb 8 rfl
   cases bm
   ·go_wp2_with (go_at_call 159; refine (C7.out _).mono ?_; rintro e w2 ⟨rfl, hb2⟩; replace hb2 := (hb.alloc hb.size _).trans (hb2.mono (hb.alloc hb.size _).size))
    go_ret
    exact ⟨rfl, ((Below.refl w.heap.size w).alloc (Nat.le_refl _) _).trans (hb2.mono (by simp))⟩
   ·go_wp2_with (first
     | (go_at_call 159; refine (C7.out _).mono ?_; rintro e w2 ⟨rfl, hb2⟩; have f2 := cellB (w := w1) hb2 (j := 2) rfl; replace hb2 := (hb.alloc hb.size _).trans (hb2.mono (hb.alloc hb.size _).size)
        have g0 := cellB hb2 (j := 0) rfl
        have g1 := cellB hb2 (j := 1) rfl
        have g2 := cellB hb2 (j := 2) rfl
        have g3 := cellB hb2 (j := 3) rfl
        have g4 := cellB hb2 (j := 4) rfl
        have g5 := cellB hb2 (j := 5) rfl
        have g6 := cellB hb2 (j := 6) rfl
        have g7 := cellB hb2 (j := 7) rfl
        have g8 := cellB hb2 (j := 8) rfl
      )
     | (go_at_call 160; refine (C8.out _).mono ?_; rintro e w3 ⟨rfl, hb3⟩; replace hb3 := hb2.trans (hb3.mono hb2.size)
        have g0 := cB hb3 0 rfl
        have g1 := cB hb3 1 rfl
        have g2 := cB hb3 2 rfl
        have g3 := cB hb3 3 rfl
        have g4 := cB hb3 4 rfl
        have g5 := cB hb3 5 rfl
        have g6 := cB hb3 6 rfl
        have g7 := cB hb3 7 rfl
        have g8 := cB hb3 8 rfl
      ))
    go_ret
    exact ⟨rfl, (((Below.refl w.heap.size w).alloc (Nat.le_refl _) _).trans (hb3.mono (by simp))).alloc (by have := hb3.size; simp at this; omega) _⟩
 ·try simp only [GO]
  go_simp;refine hK _ _ ⟨⟨fun _ => by go_simp, trivial⟩, ?_⟩
  clear hK K;refine sQ 0 fun K hK => ?_;simp only [GO];go_simp;refine (CK.out _).mono ?_
  rintro e w1 ⟨rfl, hm, hb⟩
  replace hb := undrew hb
  have hbr := below_pop hb
  have k0 := cellB hb (j := 0) rfl
  have k1 := cellB hb (j := 1) rfl
  have k2 := cellB hb (j := 2) rfl
  have k3 := cellB hb (j := 3) rfl
  have k4 := cellB hb (j := 4) rfl
  replace hm : w1.heap[w.heap.size + 2]? = some (.map kindsE 5) := by simpa using hm
  have HL := run_lookup_at (P := Tryz.prog) 189 30 187 .i64 Tryz.underlying189 Tryz.underlying30 _ _ kindsE 5 hm 3 _ 2 rfl true
  simp only [kindV] at HL
  refine hK _ _ ⟨⟨fun _ => cellB hbr (j := 0) rfl, trivial⟩, ?_⟩
  clear hK K;refine sQ 3 fun K hK => ?_;simp only [GO];go_simp;refine hK _ _ ⟨⟨fun _ => cellB hbr (j := 0) rfl, trivial⟩, ?_⟩
  clear hK K;refine tQ [4, 5, 6] ?_;refine sQ 8 fun K hK => ?_;simp only [GO];have z0 := frozenB hb 0
  have z1 := frozenB hb 1
  have z2 := frozenB hb 2
  have z3 := frozenB hb 3
  have z4 := frozenB hb 4
  simp only [World.size_alloc] at k0 k1 k2 k3 k4 z0 z1 z2 z3 z4
  go_simp;have hbs := fun v0 v1 v2 v3 v4 => (((((hbr.setCell (p := ⟨w.heap.size + 1, 0, none⟩) (by simp) v0).setCell (p := ⟨w.heap.size + 1, 1, none⟩) (by simp) v1).setCell (p := ⟨w.heap.size + 1, 2, none⟩) (by simp) v2).setCell (p := ⟨w.heap.size + 1, 3, none⟩) (by simp) v3).setCell (p := ⟨w.heap.size + 1, 4, none⟩) (by simp) v4)
  refine hK _ _ ⟨⟨fun _ => cellB (hbs _ _ _ _ _) (j := 0) rfl, trivial⟩, ?_⟩
  clear hK K;refine atR_gen (fun w' => Below (w.alloc (.cells #[.int .i64 3, .string ⟨client.toArray⟩, .int .i64 seq, .int .i64 id, .string ⟨topic.toArray⟩, .string ⟨body.toArray⟩, .int .i64 qos, .bool retain, .int .i64 stage] 33)).heap.size (w.alloc (.cells #[.int .i64 3, .string ⟨client.toArray⟩, .int .i64 seq, .int .i64 id, .string ⟨topic.toArray⟩, .string ⟨body.toArray⟩, .int .i64 qos, .bool retain, .int .i64 stage] 33)) w' /\ w'.cell? ⟨w.heap.size + 1, 1, none⟩ = some (.func (.func 159) #[] #[]) /\ w'.cell? ⟨w.heap.size + 1, 2, none⟩ = some (.func (.func 160) #[] #[]) /\ w.heap.size + 1 < w'.heap.size) ⟨hbs _ _ _ _ _, by go_simp, by go_simp, by have := hb.size; simp at this ⊢; omega⟩ fun w2 ⟨hb, f1, f2, hlt⟩ => ?_
  refine sQ 9 fun K hK => ?_;simp only [GO];go_simp;refine hK _ _ ⟨⟨fun _ => cellB hb (j := 0) rfl, trivial⟩, ?_⟩
  clear hK K;refine dQ (hKQ.out _ _ ?_);clear hKQ KQ;have g0 := cellB hb (j := 0) rfl
  have g1 := cellB hb (j := 1) rfl
  have g2 := cellB hb (j := 2) rfl
  have g3 := cellB hb (j := 3) rfl
  have g4 := cellB hb (j := 4) rfl
  have g5 := cellB hb (j := 5) rfl
  have g6 := cellB hb (j := 6) rfl
  have g7 := cellB hb (j := 7) rfl
  have g8 := cellB hb (j := 8) rfl
  cases bm
  ·go_wp2_with (go_at_call 159; refine (C7.out _).mono ?_; rintro e w3 ⟨rfl, hb2⟩; replace hb2 := hb.trans (hb2.mono hb.size))
   go_ret
   exact ⟨rfl, below_pop hb2⟩
  ·go_wp2_with (first
    | (go_at_call 159; refine (C7.out _).mono ?_; rintro e w3 ⟨rfl, hb3⟩; have f3 := (hb3.cell (p := ⟨w.heap.size + 1, 2, none⟩) hlt).trans f2; replace hb3 := hb.trans (hb3.mono hb.size)
       have g0 := cellB hb3 (j := 0) rfl
       have g1 := cellB hb3 (j := 1) rfl
       have g2 := cellB hb3 (j := 2) rfl
       have g3 := cellB hb3 (j := 3) rfl
       have g4 := cellB hb3 (j := 4) rfl
       have g5 := cellB hb3 (j := 5) rfl
       have g6 := cellB hb3 (j := 6) rfl
       have g7 := cellB hb3 (j := 7) rfl
       have g8 := cellB hb3 (j := 8) rfl
     )
    | (go_at_call 160; refine (C8.out _).mono ?_; rintro e w4 ⟨rfl, hb4⟩; replace hb4 := hb3.trans (hb4.mono hb3.size)
       have g0 := cB hb4 0 rfl
       have g1 := cB hb4 1 rfl
       have g2 := cB hb4 2 rfl
       have g3 := cB hb4 3 rfl
       have g4 := cB hb4 4 rfl
       have g5 := cB hb4 5 rfl
       have g6 := cB hb4 6 rfl
       have g7 := cB hb4 7 rfl
       have g8 := cB hb4 8 rfl
     ))
   go_ret
   exact ⟨rfl, ((below_pop hb4).alloc (by have := (below_pop hb4).size; omega) _)⟩
theorem rec_Check_good (r : RowV) (w : World) (hkd : r.kind = 3) (hm : putMay r = true) (hs : stageOK r) (hc : r.client.length <= 9223372036854775807) (ht : r.topic.length <= 1000000) :
  Calls Tryz.prog 53 #[.agg r.vals] w fun e w' => e = .returned (.int .i64 0) /\ Below w.heap.size w w' := by
 have hA := anyOK r.topic (by omega)
 rcases hs with ⟨h1, h2⟩ | hs
 ·have := rec_Check_put r w hkd h1 h2 hc (by omega) hA
  rwa [if_pos hm] at this
 ·exact rec_Check_out r w hkd true fun w => kinds7_good r w hs hm hc (by omega) hA
end
section
theorem r19_number (z : Int) (w : World) : Calls Tryz.prog 105 #[.int .i64 z] w fun e w' => e = .returned (.bool (decide (0 <= z) && decide (z <= 4611686018427387904))) /\ w = w' := by
 by_cases h : 0 <= z
 ·go_enter Tryz.func105, Tryz.ntmps105
  go_wp2
  go_ret
  simp [h]
 ·have d : decide (0 <= z) = false := decide_eq_false h
  go_enter Tryz.func105, Tryz.ntmps105
  go_wp2
  go_ret
  simp [d]
theorem r19_client (s : List UInt8) (w : World) (hs : s.length <= 1000000) :
  Calls Tryz.prog 104 #[.string ⟨s.toArray⟩] w fun e w' => e = .returned (.bool (clientR s)) /\ Below w.heap.size w w' := by
 have hsz : ByteArray.size ⟨s.toArray⟩ = s.length := by simp [ByteArray.size]
 have fin : ∀ b : Bool, clientR s = b -> Ending.returned (.bool b) = .returned (.bool (clientR s)) := fun b h => by rw [h]
 have HF := hid fin;clear fin;by_cases h1 : s.length < 1
 ·have d1 : decide ((s.length : Int) < 1) = true := decide_eq_true (by omega)
  have HB := hid (show clientR s = false by
   have : s = [] := List.eq_nil_of_length_eq_zero (by omega)
   subst this; rfl)
  go_enter Tryz.func104, Tryz.ntmps104
  go_wp2
  go_ret
  exact ⟨HF.out _ HB.out, Below.refl _ _⟩
 have e1 : s.isEmpty = false := by cases s <;> simp at h1 ⊢
 have d1 : decide ((s.length : Int) < 1) = false := decide_eq_false (by omega)
 by_cases h2 : s.length <= 23
 ·have d2 : decide ((23 : Int) < (s.length : Int)) = false := decide_eq_false (by omega)
  have CR := hid (ref_Runes s w hs)
  have HB := hid (show clientR s = decide (wrongU s = -1) by unfold clientR; rw [e1]; simp [h2])
  go_enter Tryz.func104, Tryz.ntmps104
  go_wp2_with fail
  refine CR.out.mono ?_
  rintro e w1 ⟨hb, ⟨hw, v, rfl, -⟩ | ⟨hw, rfl⟩⟩
  ·have hb := hid hb
   go_wp2
   go_ret
   exact ⟨HF.out _ (by rw [HB.out, hw]; rfl), hb.out⟩
  ·have dw : decide (wrongU s < 0) = false := decide_eq_false (by omega)
   have hb := hid hb;go_wp2
   go_ret
   exact ⟨HF.out _ (by rw [HB.out]; simp; omega), hb.out⟩
 ·have d2 : decide ((23 : Int) < (s.length : Int)) = true := decide_eq_true (by omega)
  have HB := hid (show clientR s = false by unfold clientR; rw [e1]; simp [h2])
  go_enter Tryz.func104, Tryz.ntmps104
  go_wp2
  go_ret
  exact ⟨HF.out _ HB.out, Below.refl _ _⟩
theorem r13_said (s : List UInt8) (w : World) (hs : s.length <= 1000000) :
  Calls Tryz.prog 66 #[.string ⟨s.toArray⟩] w fun e w' => e = .returned (.bool (saidR s)) /\ Below w.heap.size w w' := by
 have hsz : ByteArray.size ⟨s.toArray⟩ = s.length := by simp [ByteArray.size]
 have fin : ∀ b : Bool, saidR s = b -> Ending.returned (.bool b) = .returned (.bool (saidR s)) := fun b h => by rw [h]
 have HF := hid fin;clear fin;by_cases h1 : s.length < 1
 ·have d1 : decide ((s.length : Int) < 1) = true := decide_eq_true (by omega)
  have HB := hid (show saidR s = false by
   have : s = [] := List.eq_nil_of_length_eq_zero (by omega)
   subst this; rfl)
  go_enter Tryz.func66, Tryz.ntmps66
  go_wp2
  go_ret
  exact ⟨HF.out _ HB.out, Below.refl _ _⟩
 have e1 : s.isEmpty = false := by cases s <;> simp at h1 ⊢
 have d1 : decide ((s.length : Int) < 1) = false := decide_eq_false (by omega)
 by_cases h2 : s.length <= 200
 ·have d2 : decide ((200 : Int) < (s.length : Int)) = false := decide_eq_false (by omega)
  have CR := hid (ref_Runes s w hs)
  have HB := hid (show saidR s = decide (wrongU s = -1) by unfold saidR; rw [e1]; simp [h2])
  go_enter Tryz.func66, Tryz.ntmps66
  go_wp2_with fail
  refine CR.out.mono ?_
  rintro e w1 ⟨hb, ⟨hw, v, rfl, -⟩ | ⟨hw, rfl⟩⟩
  ·have hb := hid hb
   go_wp2
   go_ret
   exact ⟨HF.out _ (by rw [HB.out, hw]; rfl), hb.out⟩
  ·have dw : decide (wrongU s < 0) = false := decide_eq_false (by omega)
   have hb := hid hb;go_wp2
   go_ret
   exact ⟨HF.out _ (by rw [HB.out]; simp; omega), hb.out⟩
 ·have d2 : decide ((200 : Int) < (s.length : Int)) = true := decide_eq_true (by omega)
  have HB := hid (show saidR s = false by unfold saidR; rw [e1]; simp [h2])
  go_enter Tryz.func66, Tryz.ntmps66
  go_wp2
  go_ret
  exact ⟨HF.out _ HB.out, Below.refl _ _⟩
def signsR (s : List UInt8) : Nat := (s.filter fun b => b == 43 || b == 35).length
theorem signs_take (s : List UInt8) (k : Nat) (b : UInt8) (h : s[k]? = some b) : signsR (s.take (k + 1)) = signsR (s.take k) + (if b == 43 || b == 35 then 1 else 0) := by
 unfold signsR
 rw [List.take_add_one, h, Option.toList_some, List.filter_append, List.length_append]
 congr 1
 by_cases hb : (b == 43 || b == 35) = true <;> simp [hb]
theorem signs_any (s : List UInt8) : decide (signsR s = 0) = !anyR s := by
 unfold anyR Lib.containsAny
 induction s with
 | nil => rfl
 | cons b s ih =>
  have hge := Lib.indexAny_ge [43, 35] s
  have hcon : ([43, 35] : List UInt8).contains b = (b == 43 || b == 35) := by simp [List.contains_cons, beq_iff_eq]; rfl
  unfold Lib.indexAny
  rw [hcon]
  have hs : signsR (b :: s) = (if (b == 43 || b == 35) = true then 1 else 0) + signsR s := by
   unfold signsR
   rw [List.filter_cons]
   split <;> simp <;> omega
  rw [hs]
  by_cases hb : (b == 43 || b == 35) = true
  ·rw [if_pos hb, if_pos hb]
   simp
  ·rw [if_neg hb, if_neg hb, Nat.zero_add, ih]
   by_cases h0 : Lib.indexAny s [43, 35] = -1
   ·simp [h0]
   ·rw [if_neg (by simpa using h0)]
    have h1 : 0 <= Lib.indexAny s [43, 35] := by omega
    have h2 : 0 <= Lib.indexAny s [43, 35] + 1 := by omega
    simp [h1, h2]
theorem r13_signs (s : List UInt8) (w : World) (hs : s.length <= 1000000) :
  Calls Tryz.prog 68 #[.string ⟨s.toArray⟩] w fun e w' => e = .returned (.int .i64 (signsR s)) /\ w = w' := by
 have hsz : ByteArray.size ⟨s.toArray⟩ = s.length := by simp [ByteArray.size]
 go_enter Tryz.func68, Tryz.ntmps68
 go_wp2
 go_loopw [3, 4] (fun n i wr => ∃ k : Nat, n = .int .i64 (signsR (s.take k) : Nat) /\ i = .int .i64 k /\ k <= s.length /\ w = wr) (fun _ i _ => s.length - (intOf i).toNat)
 case atStart => exact ⟨0, rfl, rfl, Nat.zero_le _, rfl⟩
 case round =>
  obtain ⟨k, rfl, rfl, hk, rfl⟩ := hrel
  rcases Nat.lt_or_ge k s.length with hlt | hge
  ·have dk : decide ((k : Int) < (s.length : Int)) = true := decide_eq_true (by omega)
   obtain ⟨b, hb⟩ : ∃ b, s[k]? = some b := ⟨_, List.getElem?_eq_getElem hlt⟩
   have hix : ∀ h, (⟨s.toArray⟩ : ByteArray)[k]'h = b := fun h => by
    have : s[k]'hlt = b := (List.getElem?_eq_some_iff.1 hb).2
    exact this
   have hst := hid (signs_take s k b hb)
   have hle : signsR (s.take k) <= k := by
    unfold signsR
    have := List.length_filter_le (fun b => b == 43 || b == 35) (s.take k)
    rw [List.length_take] at this
    omega
   obtain ⟨m, hm⟩ : ∃ m : Nat, signsR (s.take k) = m := ⟨_, rfl⟩
   rw [hm] at hle
   by_cases h1 : b = 43
   ·have e1 : (((b.toNat : Nat) : Int) == 43) = true := by rw [h1]; rfl
    have hst := hid (show signsR (s.take (k + 1)) = m + 1 by rw [hst.out, hm, h1]; rfl)
    rw [hm]
    clear hm;go_wp2
    go_roundw
    case rel => exact ⟨k + 1, by rw [hst.out]; go_num, by go_num, hlt, trivial⟩
    case measure => simp [intOf]; omega
   ·have e1 : (((b.toNat : Nat) : Int) == 43) = false := by
     rw [beq_eq_false_iff_ne]
     intro h
     exact h1 (UInt8.toNat_inj.1 (show b.toNat = 43 by omega))
    by_cases h2 : b = 35
    ·have e2 : (((b.toNat : Nat) : Int) == 35) = true := by rw [h2]; rfl
     have hst := hid (show signsR (s.take (k + 1)) = m + 1 by rw [hst.out, hm, h2]; rfl)
     rw [hm]
     clear hm;go_wp2
     go_roundw
     case rel => exact ⟨k + 1, by rw [hst.out]; go_num, by go_num, hlt, trivial⟩
     case measure => simp [intOf]; omega
    ·have e2 : (((b.toNat : Nat) : Int) == 35) = false := by
      rw [beq_eq_false_iff_ne]
      intro h
      exact h2 (UInt8.toNat_inj.1 (show b.toNat = 35 by omega))
     have hst := hid (show signsR (s.take (k + 1)) = m by rw [hst.out, hm]; simp [h1, h2])
     rw [hm]
     clear hm;go_wp2
     go_roundw
     case rel => exact ⟨k + 1, by rw [hst.out], by go_num, hlt, trivial⟩
     case measure => simp [intOf]; omega
  ·obtain rfl : k = s.length := by omega
   have dk : decide ((s.length : Int) < (s.length : Int)) = false := by simp
   go_wp2
   go_ret
   exact ⟨by simp, rfl⟩
theorem r13_Name (s : List UInt8) (w : World) (hs : s.length <= 1000000) :
  Calls Tryz.prog 106 #[.string ⟨s.toArray⟩] w fun e w' => e = .returned (.bool (nameR s)) /\ Below w.heap.size w w' := by
 have fin : ∀ b : Bool, nameR s = b -> Ending.returned (.bool b) = .returned (.bool (nameR s)) := fun b h => by rw [h]
 have HF := hid fin;clear fin;have CS := hid (r13_said s w hs)
 have CG := hid fun w => r13_signs s w hs
 have HN := hid (show nameR s = (saidR s && decide (signsR s = 0)) by rw [signs_any]; rfl)
 cases hq : saidR s
 ·rw [hq] at CS HN
  clear hq;go_enter Tryz.func106, Tryz.ntmps106
  go_wp2_with (go_at_call 66; refine CS.out.mono ?_; rintro e w1 ⟨rfl, hb⟩)
  go_ret
  exact ⟨HF.out _ HN.out, hb⟩
 ·rw [hq] at CS HN
  clear hq;have HM := hid (show nameR s = decide (signsR s = 0) by rw [HN.out]; rfl)
  obtain ⟨m, hm⟩ : ∃ m : Nat, signsR s = m := ⟨_, rfl⟩
  rw [hm] at CG HM
  clear hm;go_enter Tryz.func106, Tryz.ntmps106
  go_wp2_with (first | (go_at_call 66; refine CS.out.mono ?_; rintro e w1 ⟨rfl, hb⟩) | (go_at_call 68; refine (CG.out _).mono ?_; rintro e w2 ⟨rfl, rfl⟩))
  go_ret
  refine ⟨HF.out _ ?_, hb⟩
  rw [HM.out]
  by_cases h : m = 0 <;> simp [h]
theorem r19_Right_out (r : RowV) (w : World) (hk : r.kind = 3) (hm : putMay r = true) (hs : stageOK r) (hc : r.client.length <= 1000000) (ht : r.topic.length <= 1000000) :
  Calls Tryz.prog 50 #[.agg r.vals] w fun e w' => e = .returned (.bool true) /\ Below w.heap.size w w' := by
 obtain ⟨kind, client, seq, id, topic, body, qos, retain, stage⟩ := r
 dsimp only at hk hc ht
 subst hk;unfold putMay at hm
 simp only [Bool.and_eq_true, decide_eq_true_eq] at hm
 obtain ⟨⟨⟨⟨hbc, hbs⟩, hbn⟩, hbb⟩, hbq⟩ := hm
 have CC := hid fun w => r19_client client w hc
 rw [hbc] at CC
 have CN := hid fun w => r13_Name topic w ht
 rw [hbn] at CN
 have CS := hid (r19_number seq)
 rw [show (decide (0 <= seq) && decide (seq <= 4611686018427387904)) = true by simp [hbs]] at CS
 have e0 : topic.isEmpty = false := by
  unfold nameR saidR at hbn
  cases topic <;> simp at hbn ⊢
 have hsz : ByteArray.size ⟨body.toArray⟩ = body.length := by simp [ByteArray.size]
 unfold stageOK at hs
 dsimp only at hs
 unfold RowV.vals
 have a1 : decide (0 <= qos) = true := decide_eq_true (by omega)
 have a2 : decide (qos <= 2) = true := decide_eq_true (by omega)
 have a3 : decide (2000 < (body.length : Int)) = false := decide_eq_false (by omega)
 have a4 : decide (qos < 1) = false := decide_eq_false (by omega)
 have a5 : decide (2 < qos) = false := decide_eq_false (by omega)
 clear hbc hbn hbb hbq hbs hc ht;rcases hs with ⟨rfl, rfl⟩ | ⟨hi, hst⟩
 case inl =>
  go_enter Tryz.func50, Tryz.ntmps50
  go_wp2_with (first
   | (go_at_call 104; refine (CC.out _).mono ?_; rintro e w1 ⟨rfl, hb⟩; have c2 := cellB hb (j := 2) rfl; have c4 := cellB hb (j := 4) rfl)
   | (go_at_call 106; refine (CN.out _).mono ?_; rintro e w2 ⟨rfl, hb2⟩; replace hb := hb.trans (hb2.mono hb.size); have c5 := cellB hb (j := 5) rfl; have c6 := cellB hb (j := 6) rfl; have c8 := cellB hb (j := 8) rfl; have c3 := cellB hb (j := 3) rfl)
   | (go_at_call 105; refine (CS.out _).mono ?_; rintro e w3 ⟨rfl, rfl⟩))
  go_ret
  exact ⟨rfl, ((Below.refl w.heap.size w).alloc (Nat.le_refl _) _).trans (hb.mono (by simp))⟩
 have i1 : decide (1 <= id) = true := decide_eq_true (by omega)
 have i2 : decide (id <= 65535) = true := decide_eq_true (by omega)
 clear hi;rcases hst with rfl | ⟨rfl, rfl⟩
 ·skip
  go_enter Tryz.func50, Tryz.ntmps50
  go_wp2_with (first
   | (go_at_call 104; refine (CC.out _).mono ?_; rintro e w1 ⟨rfl, hb⟩; have c2 := cellB hb (j := 2) rfl; have c4 := cellB hb (j := 4) rfl)
   | (go_at_call 106; refine (CN.out _).mono ?_; rintro e w2 ⟨rfl, hb2⟩; replace hb := hb.trans (hb2.mono hb.size); have c5 := cellB hb (j := 5) rfl; have c6 := cellB hb (j := 6) rfl; have c8 := cellB hb (j := 8) rfl; have c3 := cellB hb (j := 3) rfl)
   | (go_at_call 105; refine (CS.out _).mono ?_; rintro e w3 ⟨rfl, rfl⟩))
  go_ret
  exact ⟨rfl, ((Below.refl w.heap.size w).alloc (Nat.le_refl _) _).trans (hb.mono (by simp))⟩
 ·skip
  go_enter Tryz.func50, Tryz.ntmps50
  go_wp2_with (first
   | (go_at_call 104; refine (CC.out _).mono ?_; rintro e w1 ⟨rfl, hb⟩; have c2 := cellB hb (j := 2) rfl; have c4 := cellB hb (j := 4) rfl)
   | (go_at_call 106; refine (CN.out _).mono ?_; rintro e w2 ⟨rfl, hb2⟩; replace hb := hb.trans (hb2.mono hb.size); have c5 := cellB hb (j := 5) rfl; have c6 := cellB hb (j := 6) rfl; have c8 := cellB hb (j := 8) rfl; have c3 := cellB hb (j := 3) rfl)
   | (go_at_call 105; refine (CS.out _).mono ?_; rintro e w3 ⟨rfl, rfl⟩))
  go_ret
  exact ⟨rfl, ((Below.refl w.heap.size w).alloc (Nat.le_refl _) _).trans (hb.mono (by simp))⟩
end
section
theorem flat_get {α : Type} (f : α -> List Value) (size : Nat) (hf : ∀ x, (f x).length = size) : ∀ (l : List α) (k j : Nat) (x : α), l[k]? = some x -> j < size -> (l.flatMap f)[k * size + j]? = (f x)[j]?
 | [], k, j, x, h, _ => by simp at h
 | y :: l, 0, j, x, h, hj => by
  simp only [List.getElem?_cons_zero, Option.some.injEq] at h
  subst h;rw [List.flatMap_cons, Nat.zero_mul, Nat.zero_add, List.getElem?_append_left (by rw [hf]; exact hj)]
 | y :: l, k + 1, j, x, h, hj => by
  rw [List.getElem?_cons_succ] at h
  rw [List.flatMap_cons, List.getElem?_append_right (by rw [hf, Nat.add_mul]; omega), hf, show (k + 1) * size + j - size = k * size + j by rw [Nat.add_mul]; omega]
  exact flat_get f size hf l k j x h hj
theorem own_range {α : Type} (f : α -> List Value) {size : Nat} (hf : ∀ x, (f x).length = size) {w : World} {base : Nat} {e : TypeId} {a : Option Addr} {cap : Nat} {l : List α} {n : Nat} (hn : l.length = n) (h : w.ownsRow base e size (.slice a n cap) n (l.flatMap f)) {k : Nat} {x : α} (hx : l[k]? = some x) :
  ∃ g, a = some ⟨g, 0, none⟩ /\ n <= cap /\ w.rangeAt g (k * size) (f x) := by
 have hk := (List.getElem?_eq_some_iff.1 hx).1
 have hc := fun g => h.cells (g := g)
 obtain ⟨_, ⟨he, h0⟩ | ⟨g, cap', cur, he, _, _, hn, _⟩⟩ := h
 ·omega
 ·cases he
  refine ⟨g, rfl, hn, fun j v hj => ?_⟩
  have hjs : j < size := by have := (List.getElem?_eq_some_iff.1 hj).1; rw [hf] at this; exact this
  have := hc g rfl (k * size + j) v (by rw [flat_get f size hf l k j x hx hjs]; exact hj)
  rw [Addr.add_mid, Nat.zero_add] at this
  exact this
theorem PackV.len (p : PackV) : p.cells.length = 24 := rfl
theorem ChangeV.len (c : ChangeV) : c.cells.length = 10 := rfl
end
section
section
variable {P : Program} {w : World} {b : Nat} {cs : Array Value} {T : TypeId}
theorem run_load_blk (h : Blk w b cs T) (ty : TypeId) {d : TypeDesc} (hu : P.underlying ty = some d) (hd : d.isRow = true) (hi : (P.info? ty).map (·.size) = some cs.size) : (Instr.loadAt ty (.pointer (some ⟨b, 0, none⟩))).run P w = .ok (.agg cs) w := by
 have := run_loadAt_mid (P := P) w b 0 ty cs.toList d h.range hu hd (by simpa using hi)
 simpa using this
theorem run_loadVar_blk (h : Blk w b cs T) (ty : TypeId) {d : TypeDesc} (hu : P.underlying ty = some d) (hd : d.isRow = true) (hi : (P.info? ty).map (·.size) = some cs.size) : (loadVar ty ⟨b, 0, none⟩).run P w = .ok (.agg cs) w := by
 have := run_loadVar_mid (P := P) w b 0 ty cs.toList d h.range hu hd (by simpa using hi)
 simpa using this
theorem wpList_load_blk {ops : Array Oper} {rest : List Oper} {op : Oper} {a : Act} {Q : Exit -> Act -> World -> Prop} (hgd : op.guard = none) (ty : TypeId) (x : Operand) (ho : op.op = .load ty x)
  (b : Nat) (cs : Array Value) (hx : a.eval x = .pointer (some ⟨b, 0, none⟩)) (hb : Blk w b cs T) {d : TypeDesc} (hu : P.underlying ty = some d) (hd : d.isRow = true) (hi : (P.info? ty).map (·.size) = some cs.size)
  (h : wpList P ops Q rest (a.put op.dst (.agg cs)) w) : wpList P ops Q (op :: rest) a w :=
 wpList_load_mid hgd ty x ho b 0 hx cs.toList d hb.range hu hd (by simpa using hi) (by simpa using h)
theorem wpList_store_blk {ops : Array Oper} {rest : List Oper} {op : Oper} {a : Act} {Q : Exit -> Act -> World -> Prop} (hgd : op.guard = none) (ty T : TypeId) (x y : Operand) (ho : op.op = .store ty x y) (n : Nat) (hs : ∀ w, (sizeOf ty).run P w = .ok n w)
  (b : Nat) (cur cs : Array Value) (hx : a.eval x = .pointer (some ⟨b, 0, none⟩)) (hy : a.eval y = .agg cs) (hb : Blk w b cur T) (h1 : cs.size = n) (h2 : cur.size = n) (ho1 : ∀ v ∈ cs.toList, v.oneCell' = true)
  (h : ∀ w', Blk w' b cs T -> Wrote [b] w w' -> wpList P ops Q rest (a.put op.dst undef) w') : wpList P ops Q (op :: rest) a w :=
 wpList_plain hgd fun _ hK => wp_store_whole ty T x y ho n hs b cur cs hx hy hb h1 h2 ho1 fun w' hb' hw' => hK _ _ (h w' hb' hw')
theorem wL {ops : Array Oper} {rest : List Oper} {op : Oper} {a : Act} {Q : Exit -> Act -> World -> Prop} {T : TypeId} (ty : TypeId) {x : Operand} (ho : op.op = .load ty x) {b : Nat} {cs : Array Value} (hx : a.eval x = .pointer (some ⟨b, 0, none⟩)) (hb : Blk w b cs T) {d : TypeDesc} (hu : P.underlying ty = some d)
  (h : wpList P ops Q rest (a.put op.dst (.agg cs)) w) (hgd : op.guard = none := by rfl) (hd : d.isRow = true := by rfl) (hi : (P.info? ty).map (·.size) = some cs.size := by kernel_rfl) : wpList P ops Q (op :: rest) a w :=
 wpList_load_blk hgd ty x ho b cs hx hb hu hd hi h
theorem wS {ops : Array Oper} {rest : List Oper} {op : Oper} {a : Act} {Q : Exit -> Act -> World -> Prop} (T : TypeId) (n : Nat) {x y : Operand} (ho : op.op = .store T x y)
  (b : Nat) (cur cs : Array Value) (hx : a.eval x = .pointer (some ⟨b, 0, none⟩)) (hy : a.eval y = .agg cs) (hb : Blk w b cur T) (h1 : cs.size = n) (h2 : cur.size = n) (ho1 : ∀ v ∈ cs.toList, v.oneCell' = true)
  (h : ∀ w', Blk w' b cs T -> Wrote [b] w w' -> wpList P ops Q rest (a.put op.dst undef) w') (hgd : op.guard = none := by rfl) (hs : ∀ w, (sizeOf T).run P w = .ok n w := by (intro w; kernel_rfl)) : wpList P ops Q (op :: rest) a w :=
 wpList_store_blk hgd T T x y ho n hs b cur cs hx hy hb h1 h2 ho1 h
theorem wp_append_grp {o : Oper} {a : Act} {K : Act -> World -> Prop} {Q : Exit -> Act -> World -> Prop} {t e : TypeId} {z : Value} {size bytes : Nat} (s x : Operand)
  (ho : o.op = .call { callee := .builtin .append, args := #[s, x], argTypes := #[t, t] }) (E : ElemT P t e z size bytes) (hsz : 0 < size)
  (base : Nat) (v : Value) (n : Nat) (xs : List Value) (hs : a.eval s = v) (hown : w.ownsRow base e size v n xs) (g : Nat) (news : List Value) (T : TypeId) (hx : a.eval x = .slice (some ⟨g, 0, none⟩) 1 1) (hg : Blk w g news.toArray T) (hl : news.length = size) (h1 : ∀ u ∈ news, u.oneCell' = true)
  (h63 : n < 100000000) (hbytes : (n + 1) * bytes <= 140737488355328) (hbase : base <= w.heap.size)
  (h : ∀ v' w', w'.ownsRow base e size v' (n + 1) (xs ++ news) -> w.grownBy w' v.ownBlock -> (∀ k, v'.ownBlock = some k -> v.ownBlock = some k \/ w.heap.size <= k) -> K (a.put o.dst v') w') : o.wp P a w K Q := by
 obtain ⟨v', w', hr, h2, h3, h4⟩ := run_append2 (P := P) (w := w) o.type E hsz base v n xs hown ⟨g, 0, none⟩ news hl (fun j u hj => by
  have := hg.cell j
  simp only [List.getElem?_toArray] at this
  rw [hj] at this
  by_cases h0 : j = 0
  ·subst h0; simpa [Addr.add] using this
  ·simpa [Addr.add, h0] using this) h1 h63 hbytes hbase
 unfold Oper.wp execOp
 simp only [ho, resolve, invoke, builtin, Sem.run_bind, Sem.run_pure, Result.andThen_ok, List.map_toArray, List.map_cons, List.map_nil, hs, hx, hr]
 exact h v' w' h2 h3 h4
theorem results_cc {fn : Func} {a b : Tmp} {t u : TypeId} (h : fn.results = #[.cell a t, .cell b u]) {tmps : Array Value} {p q : Addr} (hp : tmps.getD a undef = .pointer (some p)) (hq : tmps.getD b undef = .pointer (some q)) {v x : Value} (hl : (loadVar t p).run P w = .ok v w) (hu : (loadVar u q).run P w = .ok x w) : (results fn tmps).run P w = .ok (.tuple #[v, x]) w := by
 rw [Array.getD_eq_getD_getElem?] at hp hq
 simp [results, h, hp, hq, asAddr, hl, hu]
theorem results_cct {fn : Func} {a b c : Tmp} {t u : TypeId} (h : fn.results = #[.cell a t, .cell b u, .tmp c]) {tmps : Array Value} {p q : Addr} (hp : tmps.getD a undef = .pointer (some p)) (hq : tmps.getD b undef = .pointer (some q)) {v x y : Value} (hl : (loadVar t p).run P w = .ok v w) (hu : (loadVar u q).run P w = .ok x w) (hy : tmps.getD c undef = y) : (results fn tmps).run P w = .ok (.tuple #[v, x, y]) w := by
 rw [Array.getD_eq_getD_getElem?] at hp hq hy
 simp [results, h, hp, hq, hy, asAddr, hl, hu]
theorem results_ctt {fn : Func} {a b c : Tmp} {t : TypeId} (h : fn.results = #[.cell a t, .tmp b, .tmp c]) {tmps : Array Value} {p : Addr} (hp : tmps.getD a undef = .pointer (some p)) {v x y : Value} (hl : (loadVar t p).run P w = .ok v w) (hx : tmps.getD b undef = x) (hy : tmps.getD c undef = y) : (results fn tmps).run P w = .ok (.tuple #[v, x, y]) w := by
 rw [Array.getD_eq_getD_getElem?] at hp hx hy
 simp [results, h, hp, hx, hy, asAddr, hl]
end
theorem below_wrote {a w w' : World} (h : Below a.heap.size a w) {M : List Nat} (hw : Wrote M w w') (hM : ∀ x ∈ M, a.heap.size <= x) : Below a.heap.size a w' :=
 h.trans (hw.below h.size hM)
section
variable {P : Program} {ops : Array Oper} {KQ : Act -> World -> Prop} {facts : List Fact} {taken : List Nat} {a : Act} {w : World}
theorem appQ (i : Nat) {oi : Oper} (hi : ops[i]? = some oi) (hB : takeB ops (facts.map (·.1)) taken i = true) (hw : Region.wanted oi (yielded ops a.tmps) = true) {s x : Operand} {tys : Array TypeId}
  (hop : oi.op = .call { callee := .builtin .append, args := #[s, x], argTypes := tys }) {u y : Value} (hs : a.eval s = u) (hx : a.eval x = y) (v : Value) (hr : ∀ w', (Builtin.append_ tys oi.type #[u, y]).run P w' = .ok v w')
  (h : atR P ops KQ facts (i :: taken) (a.put oi.dst v) w) : atR P ops KQ facts taken a w := by
 refine readyR i hi hB v (.inl ⟨hw, fun w' hu => ?_⟩) h
 simp only [execOp, hop, resolve, invoke, builtin, Sem.run_bind, Sem.run_pure, Result.andThen_ok, List.map_toArray, List.map_cons, List.map_nil, hs, hx, hr]
end
section
variable {P : Program} {ops : Array Oper}
theorem regionB2 {id : Nat} {a : Act} {w : World} {Q : Exit -> Act -> World -> Prop} {b1 b2 : Nat} {c1 c2 : Array Value} {T1 T2 : TypeId} (k1 k2 : Nat) (hm : P.follows .mixedOrders = true) (h1 : Blk w.drew b1 c1 T1) (h2 : Blk w.drew b2 c2 T2)
  (h : ∀ KQ, Shut (∀ a w, Q .normal a w -> KQ a w) -> atR P ops KQ [(k1, fun w' => Blk w' b1 c1 T1), (k2, fun w' => Blk w' b2 c2 T2)] [] a w.drew) : (Code.region id ops true).wp P Q a w :=
 regionQ [(k1, fun w' => Blk w' b1 c1 T1), (k2, fun w' => Blk w' b2 c2 T2)] hm ⟨h1, h2, trivial⟩ h
end
end
section
theorem ob_rebase2 {w : World} {B : Nat} {L : Lay} {s : OS} (h : OB w B L s [] []) (hn : L.vp = .slice none 0 0 /\ L.vc = .slice none 0 0) : OB w w.heap.size L s [] [] := by
 obtain ⟨p, ib, sb, vl, vp, vc, rb, W⟩ := L
 dsimp only at hn
 obtain ⟨rfl, rfl⟩ := hn
 exact OB.rebase (L := ⟨p, ib, sb, vl, .slice none 0 0, .slice none 0 0, rb, W⟩) h (Nat.le_refl _)
theorem did_none {w w' : World} {B : Nat} {L : Lay} {s : OS} (h : OB w B L s [] []) (hn : L.vp = .slice none 0 0 /\ L.vc = .slice none 0 0) (hb : Below w.heap.size w w') : DidAt w w' L L s (.slice none 0 0) (.slice none 0 0) [] [] := by
 refine ⟨?_, hn, rfl, Stp.below hb, World.ownsRow_nil _ _ _ _, World.ownsRow_nil _ _ _ _⟩
 obtain ⟨p, ib, sb, vl, vp, vc, rb, W⟩ := L
 dsimp only at hn
 obtain ⟨rfl, rfl⟩ := hn
 exact OB.rebase (L := ⟨p, ib, sb, vl, .slice none 0 0, .slice none 0 0, rb, W⟩) (h.below hb) (Nat.le_refl _)
end
end Go.Proofs.YtoinabapaeebfaaGreatDoor
