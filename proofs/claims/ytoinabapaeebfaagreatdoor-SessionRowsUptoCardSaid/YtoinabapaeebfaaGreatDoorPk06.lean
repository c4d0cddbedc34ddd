/- Parts of the proof of SessionRows: contracts of functions that it reaches, and plain lemmas. No condition of their own. -/
import Derived.Test.YtoinabapaeebfaaGreatDoorPk05
import Derived.Handy
import Derived.Test.YtoinabapaeebfaaGreatDoorPk04
import Derived.Laws.EntriesVeiled
import Derived.Test.YtoinabapaeebfaaGreatDoorPk01
set_option linter.unusedSimpArgs false
set_option linter.unusedVariables false
set_option maxRecDepth 100000
set_option maxHeartbeats 8000000
namespace Go.Proofs.YtoinabapaeebfaaGreatDoor
open Go.RowKit Go.Shelf
section
def anyR (s : List UInt8) : Bool := Go.Lib.containsAny s [43, 35]
def AnyOK (s : List UInt8) : Prop := ∀ w, Calls Tryz.prog 119 #[.string ⟨s.toArray⟩, .string ⟨#[43, 35]⟩] w fun e w' => e = .returned (.bool (anyR s)) /\ Below w.heap.size w w'
def saidR (s : List UInt8) : Bool := !s.isEmpty && decide (s.length <= 200) && decide (wrongU s = -1)
def nameR (s : List UInt8) : Bool := saidR s && !anyR s
theorem topic_said (s : List UInt8) (w : World) (hs : s.length <= 9223372036854775807) :
  Calls Tryz.prog 118 #[.string ⟨s.toArray⟩] w fun e w' => e = .returned (.bool (saidR s)) /\ Below w.heap.size w w' := by
 have hsz : ByteArray.size ⟨s.toArray⟩ = s.length := by simp [ByteArray.size]
 have fin : ∀ b : Bool, saidR s = b -> Ending.returned (.bool b) = .returned (.bool (saidR s)) := fun b h => by rw [h]
 have HF := hid fin;clear fin;by_cases h0 : s = []
 ·subst h0
  go_enter Tryz.func118, Tryz.ntmps118
  go_wp2
  go_ret
  exact ⟨HF.out _ rfl, Below.refl _ _⟩
 have e0 : ((⟨s.toArray⟩ : ByteArray).toList == (⟨#[]⟩ : ByteArray).toList) = false := by
  rw [ByteArray.toList_eq, ByteArray.toList_eq]
  simpa using h0
 have e1 : s.isEmpty = false := by cases s <;> simp at h0 ⊢
 have HS0 := hid h0;clear h0;by_cases h1 : s.length <= 200
 ·have CC := hid (utf_Check s w (by omega))
  by_cases hw : wrongU s = -1
  ·rw [show checkU s = 0 by unfold checkU; rw [hw]; rfl] at CC
   have HB := hid (show saidR s = true by unfold saidR; rw [e1, hw]; simp [h1])
   clear hw;go_enter Tryz.func118, Tryz.ntmps118
   go_wp2_with (go_at_call 181; refine CC.out.mono ?_; rintro e w1 ⟨rfl, hb⟩)
   go_ret
   exact ⟨HF.out _ HB.out, hb⟩
  ·rw [show checkU s = 220 by unfold checkU; rw [if_pos (by have := wrongU_lo s; omega)]] at CC
   have HB := hid (show saidR s = false by unfold saidR; rw [e1]; simp [hw])
   clear hw;go_enter Tryz.func118, Tryz.ntmps118
   go_wp2_with (go_at_call 181; refine CC.out.mono ?_; rintro e w1 ⟨rfl, hb⟩)
   go_ret
   exact ⟨HF.out _ HB.out, hb⟩
 ·have d1 : decide ((s.length : Int) <= 200) = false := decide_eq_false (by omega)
  have HB := hid (show saidR s = false by unfold saidR; rw [e1]; simp [h1])
  clear h1;go_enter Tryz.func118, Tryz.ntmps118
  go_wp2
  go_ret
  exact ⟨HF.out _ HB.out, Below.refl _ _⟩
theorem topic_Name (s : List UInt8) (w : World) (hs : s.length <= 9223372036854775807) (hA : AnyOK s) :
  Calls Tryz.prog 63 #[.string ⟨s.toArray⟩] w fun e w' => e = .returned (.bool (nameR s)) /\ Below w.heap.size w w' := by
 have fin : ∀ b : Bool, nameR s = b -> Ending.returned (.bool b) = .returned (.bool (nameR s)) := fun b h => by rw [h]
 have HF := hid fin;clear fin;have CS := hid (topic_said s w hs)
 have HA := hid hA;clear hA;have HN := hid (show nameR s = (saidR s && !anyR s) from rfl)
 cases hq : saidR s
 ·rw [hq] at CS HN
  clear hq;go_enter Tryz.func63, Tryz.ntmps63
  go_wp2_with (go_at_call 118; refine CS.out.mono ?_; rintro e w1 ⟨rfl, hb⟩)
  go_ret
  exact ⟨HF.out _ HN.out, hb⟩
 ·rw [hq] at CS HN
  clear hq;have HM := hid (show nameR s = !anyR s by rw [HN.out]; rfl)
  go_enter Tryz.func63, Tryz.ntmps63
  go_wp2_with (first | (go_at_call 118; refine CS.out.mono ?_; rintro e w1 ⟨rfl, hb⟩) | (go_at_call 119; refine (HA.out _).mono ?_; rintro e w2 ⟨rfl, hb2⟩))
  go_ret
  refine ⟨HF.out _ ?_, hb.trans (hb2.mono hb.size)⟩
  rw [HM.out]
end
section
theorem rec_within_b (n a b : Int) (v : Bool) (h : (decide (a <= n) && decide (n <= b)) = v) (w : World) :
  Calls Tryz.prog 151 #[.int .i64 n, .int .i64 a, .int .i64 b] w fun e w' => e = .returned (.bool v) /\ w = w' := by
 have := rec_within n a b w
 rwa [h] at this
theorem cellB {w w1 : World} {cs : Array Value} {T : Nat} (hb : Below (w.alloc (.cells cs T)).heap.size (w.alloc (.cells cs T)) w1) {j : Nat} {v : Value} (hv : cs[j]? = some v) :
  w1.cell? ⟨w.heap.size, j, none⟩ = some v := by
 rw [hb.cell (by simp [World.size_alloc])]
 exact (World.cell?_alloc_at _ _ _ _ rfl).trans hv
theorem cB {w w1 : World} {cs : Array Value} {T : Nat} (hb : Below (w.alloc (.cells cs T)).heap.size (w.alloc (.cells cs T)) w1) (j : Nat) {v : Value} (hv : cs[j]? = some v) : ∀ o, (w1.alloc o).cell? ⟨w.heap.size, j, none⟩ = some v :=
 fun o => cellB (hb.alloc hb.size o) hv
def putMay (r : RowV) : Bool := clientR r.client && (decide (0 <= r.seq) && decide (r.seq <= 4611686018427387904)) && nameR r.topic && decide ((r.body.length : Int) <= 2000) && (decide (1 <= r.qos) && decide (r.qos <= 2))
theorem kinds7_put (r : RowV) (w : World) (hst : r.stage = 1) (hid0 : r.id = 0) (hc : r.client.length <= 9223372036854775807) (ht : r.topic.length <= 9223372036854775807) (hA : AnyOK r.topic) :
  Calls Tryz.prog 159 #[.agg r.vals] w fun e w' => e = .returned (.bool (putMay r)) /\ Below w.heap.size w w' := by
 obtain ⟨kind, client, seq, id, topic, body, qos, retain, stage⟩ := r
 simp only at hst hid0 hc ht hA
 subst hst hid0;obtain ⟨bc, hbc⟩ : ∃ b, clientR client = b := ⟨_, rfl⟩
 obtain ⟨bs, hbs⟩ : ∃ b, (decide (0 <= seq) && decide (seq <= 4611686018427387904)) = b := ⟨_, rfl⟩
 obtain ⟨bn, hbn⟩ : ∃ b, nameR topic = b := ⟨_, rfl⟩
 obtain ⟨bq, hbq⟩ : ∃ b, (decide (1 <= qos) && decide (qos <= 2)) = b := ⟨_, rfl⟩
 obtain ⟨bb, hbb⟩ : ∃ b, decide ((body.length : Int) <= 2000) = b := ⟨_, rfl⟩
 have HP := hid (show putMay ⟨kind, client, seq, 0, topic, body, qos, retain, 1⟩ = (bc && bs && bn && bb && bq) by unfold putMay; simp only; rw [hbc, hbs, hbn, hbq, hbb])
 have CC := fun w => rec_client client w hc
 rw [hbc] at CC
 have CN := fun w => topic_Name topic w ht hA
 rw [hbn] at CN
 have CS := rec_within_b _ _ _ _ hbs
 have CQ := rec_within_b _ _ _ _ hbq
 have hsz : ByteArray.size ⟨body.toArray⟩ = body.length := by simp [ByteArray.size]
 have HCC := hid CC;have HCN := hid CN;have HCS := hid CS;have HCQ := hid CQ;clear CC CN CS CQ hbc hbs hbn hbq hc ht hA;unfold RowV.vals
 have K : bc = false \/ (bc = true /\ bs = false) \/ (bc = true /\ bs = true /\ bn = false) \/ (bc = true /\ bs = true /\ bn = true /\ bb = false) \/ (bc = true /\ bs = true /\ bn = true /\ bb = true) := by
  cases bc <;> cases bs <;> cases bn <;> cases bb <;> simp
 rcases K with rfl | ⟨rfl, rfl⟩ | ⟨rfl, rfl, rfl⟩ | ⟨rfl, rfl, rfl, rfl⟩ | ⟨rfl, rfl, rfl, rfl⟩
 case inr.inr.inr.inr =>
  have hle : (body.length : Int) <= 2000 := of_decide_eq_true hbb
  clear hbb;cases bq
  all_goals
   go_enter Tryz.func159, Tryz.ntmps159
   go_wp2_with (first
    | (go_at_call 150; refine (HCC.out _).mono ?_; rintro e w1 ⟨rfl, hb⟩; have c2 := cellB hb (j := 2) rfl; have c4 := cellB hb (j := 4) rfl)
    | (go_at_call 63; refine (HCN.out _).mono ?_; rintro e w2 ⟨rfl, hb2⟩; replace hb := hb.trans (hb2.mono hb.size); have c5 := cellB hb (j := 5) rfl; have c6 := cellB hb (j := 6) rfl)
    | (go_at_call 151; refine (HCS.out _).mono ?_; rintro e w3 ⟨rfl, rfl⟩; clear HCS)
    | (go_at_call 151; refine (HCQ.out _).mono ?_; rintro e w3 ⟨rfl, rfl⟩))
   go_ret
   refine ⟨by rw [HP.out]; rfl, ?_⟩
   first | exact (Below.refl _ _).alloc (Nat.le_refl _) _ |>.trans (hb.mono (by simp)) | exact ((Below.refl w.heap.size w).alloc (Nat.le_refl _) _).trans (hb.mono (by simp))
 case inr.inr.inr.inl =>
  go_enter Tryz.func159, Tryz.ntmps159
  go_wp2_with (first
   | (go_at_call 150; refine (HCC.out _).mono ?_; rintro e w1 ⟨rfl, hb⟩; have c2 := cellB hb (j := 2) rfl; have c4 := cellB hb (j := 4) rfl)
   | (go_at_call 63; refine (HCN.out _).mono ?_; rintro e w2 ⟨rfl, hb2⟩; replace hb := hb.trans (hb2.mono hb.size); have c5 := cellB hb (j := 5) rfl; have c6 := cellB hb (j := 6) rfl)
   | (go_at_call 151; refine (HCS.out _).mono ?_; rintro e w3 ⟨rfl, rfl⟩; clear HCS)
   | (go_at_call 151; refine (HCQ.out _).mono ?_; rintro e w3 ⟨rfl, rfl⟩))
  go_ret
  refine ⟨by rw [HP.out]; rfl, ?_⟩
  first | exact (Below.refl _ _).alloc (Nat.le_refl _) _ |>.trans (hb.mono (by simp)) | exact ((Below.refl w.heap.size w).alloc (Nat.le_refl _) _).trans (hb.mono (by simp))
 all_goals
  clear hbb;go_enter Tryz.func159, Tryz.ntmps159
  go_wp2_with (first
   | (go_at_call 150; refine (HCC.out _).mono ?_; rintro e w1 ⟨rfl, hb⟩; have c2 := cellB hb (j := 2) rfl; have c4 := cellB hb (j := 4) rfl)
   | (go_at_call 63; refine (HCN.out _).mono ?_; rintro e w2 ⟨rfl, hb2⟩; replace hb := hb.trans (hb2.mono hb.size); have c5 := cellB hb (j := 5) rfl; have c6 := cellB hb (j := 6) rfl)
   | (go_at_call 151; refine (HCS.out _).mono ?_; rintro e w3 ⟨rfl, rfl⟩; clear HCS)
   | (go_at_call 151; refine (HCQ.out _).mono ?_; rintro e w3 ⟨rfl, rfl⟩))
  go_ret
  refine ⟨by rw [HP.out]; rfl, ?_⟩
  first | exact (Below.refl _ _).alloc (Nat.le_refl _) _ |>.trans (hb.mono (by simp)) | exact ((Below.refl w.heap.size w).alloc (Nat.le_refl _) _).trans (hb.mono (by simp))
end
section
def sessMay (r : RowV) : Bool := clientR r.client && (decide (0 <= r.seq) && decide (r.seq <= 4611686018427387904)) && (decide (0 <= r.id) && decide (r.id <= 4611686018427387904))
def sessHas (r : RowV) : RowV := ⟨0, r.client, r.seq, r.id, [], [], 0, false, 0⟩
theorem kinds1 (r : RowV) (w : World) (hc : r.client.length <= 9223372036854775807) :
  Calls Tryz.prog 149 #[.agg r.vals] w fun e w' => e = .returned (.bool (sessMay r)) /\ Below w.heap.size w w' := by
 obtain ⟨kind, client, seq, id, topic, body, qos, retain, stage⟩ := r
 simp only at hc
 obtain ⟨bc, hbc⟩ : ∃ b, clientR client = b := ⟨_, rfl⟩
 obtain ⟨bs, hbs⟩ : ∃ b, (decide (0 <= seq) && decide (seq <= 4611686018427387904)) = b := ⟨_, rfl⟩
 obtain ⟨bi, hbi⟩ : ∃ b, (decide (0 <= id) && decide (id <= 4611686018427387904)) = b := ⟨_, rfl⟩
 have HP := hid (show sessMay ⟨kind, client, seq, id, topic, body, qos, retain, stage⟩ = (bc && bs && bi) by unfold sessMay; simp only; rw [hbc, hbs, hbi])
 have CC := fun w => rec_client client w hc
 rw [hbc] at CC
 have HCC := hid CC;have HCS := hid (rec_within_b _ _ _ _ hbs)
 have HCI := hid (rec_within_b _ _ _ _ hbi)
 clear CC hbc hbs hbi hc;unfold RowV.vals
 have K : bc = false \/ (bc = true /\ bs = false) \/ (bc = true /\ bs = true /\ bi = false) \/ (bc = true /\ bs = true /\ bi = true) := by
  cases bc <;> cases bs <;> cases bi <;> simp
 rcases K with rfl | ⟨rfl, rfl⟩ | ⟨rfl, rfl, rfl⟩ | ⟨rfl, rfl, rfl⟩
 all_goals
  go_enter Tryz.func149, Tryz.ntmps149
  go_wp2_with (first
   | (go_at_call 150; refine (HCC.out _).mono ?_; rintro e w1 ⟨rfl, hb⟩; have c2 := cellB hb (j := 2) rfl; have c3 := cellB hb (j := 3) rfl)
   | (go_at_call 151; refine (HCS.out _).mono ?_; rintro e w3 ⟨rfl, rfl⟩; clear HCS)
   | (go_at_call 151; refine (HCI.out _).mono ?_; rintro e w3 ⟨rfl, rfl⟩))
  go_ret
  refine ⟨by rw [HP.out]; rfl, ?_⟩
  exact ((Below.refl w.heap.size w).alloc (Nat.le_refl _) _).trans (hb.mono (by simp))
theorem kinds2 (r : RowV) (w : World) :
  Calls Tryz.prog 152 #[.agg r.vals] w fun e w' => e = .returned (.agg (sessHas r).vals) /\ Below w.heap.size w w' := by
 unfold RowV.vals sessHas
 go_enter Tryz.func152, Tryz.ntmps152
 go_wp2
 go_returns
 exact ⟨rfl, ((Below.refl w.heap.size w).alloc (Nat.le_refl _) _).alloc (by simp) _⟩
theorem kinds8 (r : RowV) (w : World) :
  Calls Tryz.prog 160 #[.agg r.vals] w fun e w' => e = .returned (.agg r.vals) /\ Below w.heap.size w w' := by
 unfold RowV.vals
 go_enter Tryz.func160, Tryz.ntmps160
 go_wp2
 go_returns
 exact ⟨rfl, ((Below.refl w.heap.size w).alloc (Nat.le_refl _) _).alloc (by simp) _⟩
end
section
section
variable {P : Program} {ops : Array Oper} {KQ : Act -> World -> Prop} {facts : List Fact} {taken : List Nat} {a : Act} {w : World}
theorem stepQ2 (j1 j2 : Nat) {o1 o2 : Oper} (hj1 : ops[j1]? = some o1) (hj2 : ops[j2]? = some o2) (hr : Region.ready .any ops (listedOf ops taken) = [j1, j2]) (hlt : taken.length < ops.size)
  (hw1 : Region.wanted o1 (yielded ops a.tmps) = true) (hw2 : Region.wanted o2 (yielded ops a.tmps) = true)
  (h1 : ∀ K : Act -> World -> Prop, (∀ a' w', Both (HoldR (j1 :: taken) facts w') (atR P ops KQ facts (j1 :: taken) a' w') -> K a' w') -> o1.wp P a w K (onlyN KQ))
  (h2 : ∀ K : Act -> World -> Prop, (∀ a' w', Both (HoldR (j2 :: taken) facts w') (atR P ops KQ facts (j2 :: taken) a' w') -> K a' w') -> o2.wp P a w K (onlyN KQ)) : atR P ops KQ facts taken a w := by
 intro ht hcl hfr
 have hl1 : j1 < ops.size := (Array.getElem?_eq_some_iff.1 hj1).1
 have hl2 : j2 < ops.size := (Array.getElem?_eq_some_iff.1 hj2).1
 have go : ∀ (j : Nat) (oj : Oper), ops[j]? = some oj -> j < ops.size -> j ∈ Region.ready .any ops (listedOf ops taken) -> Region.wanted oj (yielded ops a.tmps) = true ->
   (∀ K : Act -> World -> Prop, (∀ a' w', Both (HoldR (j :: taken) facts w') (atR P ops KQ facts (j :: taken) a' w') -> K a' w') -> oj.wp P a w K (onlyN KQ)) ->
   wpOp P ops (onlyN KQ) j (fun a' w' => FR facts ((listedOf ops taken).setIfInBounds j true) w' /\ wpAnyR P .any ops (onlyN KQ) facts (ops.size - (j :: taken).length) ((listedOf ops taken).setIfInBounds j true) a' w') a w := by
  intro j oj hj hlj hrj hw h
  have ht' : ∀ i ∈ j :: taken, i < ops.size := fun i hi => by exact (List.mem_cons.1 hi).elim (fun e => e ▸ hlj) (ht i)
  unfold wpOp
  rw [hj]
  dsimp only
  rw [if_pos hw]
  refine .inl (h _ fun a' w' hb => ?_)
  have hf : FR facts (listedOf ops (j :: taken)) w' := fun f hf hl => hb.one.mem f hf (by rw [listedOf_get _ _ ht'] at hl; exact hl)
  exact ⟨hf, hb.two ht' (hcl.step hrj) hf⟩
 have e1 : ops.size - taken.length = (ops.size - (j1 :: taken).length) + 1 := by simp only [List.length_cons]; omega
 rw [e1]
 refine ⟨fun h0 => absurd (hr.symm.trans h0) (by simp), fun i hi => ?_⟩
 rw [hr] at hi
 have hi' : i = j1 \/ i = j2 := by simpa using hi
 rcases hi' with rfl | rfl
 ·exact go _ _ hj1 hl1 (by rw [hr]; simp) hw1 h1
 ·exact go _ _ hj2 hl2 (by rw [hr]; simp) hw2 h2
end
section
variable {P : Program} {ops : Array Oper} {KQ : Act -> World -> Prop} {facts : List Fact} {taken : List Nat} {a : Act} {w : World}
theorem nilQ (i : Nat) {oi : Oper} (hi : ops[i]? = some oi) (hB : takeB ops (facts.map (·.1)) taken i = true) (hw : Region.wanted oi (yielded ops a.tmps) = true) {x : Operand} (hop : oi.op = .nilCheck x) {p : Addr} (hx : a.eval x = .pointer (some p))
  (h : atR P ops KQ facts (i :: taken) (a.put oi.dst (.pointer (some p))) w) : atR P ops KQ facts taken a w := by
 refine readQ i hi hB _ hw (fun w' _ => ?_) h
 simp [execOp, hop, hx]
theorem TL.niln {i : Nat} {oi : Oper} (hi : ops[i]? = some oi) (hB : takeB ops (facts.map (·.1)) taken i = true) (hw : Region.wanted oi (yielded ops a.tmps) = true) {x : Operand} (hop : oi.op = .nilCheck x) {p : Addr} (hx : a.eval x = .pointer (some p))
  (h : atR P ops KQ facts (i :: taken) (a.put oi.dst (.pointer (some p))) w) : TL [i] (atR P ops KQ facts taken a w) := ⟨nilQ i hi hB hw hop hx h⟩
theorem nQ (i : Nat) {X Q : Prop} (q : Q) (h : Q -> TL [i] X := by (intro hq; refine TL.niln rfl (by kernel_rfl) (by kernel_rfl) rfl rfl ?_; simp only [PT]; exact hq)) : X := (h q).out
end
end
section
theorem below_pop {w w1 : World} {o : Obj} (h : Below (w.alloc o).heap.size (w.alloc o) w1) : Below w.heap.size w w1 := ((Below.refl _ w).alloc (Nat.le_refl _) o).trans (h.mono (by simp))
theorem atR_gen {P : Program} {ops : Array Oper} {KQ : Act -> World -> Prop} {facts : List Fact} {taken : List Nat} {a : Act} {w : World} (C : World -> Prop) (hC : C w) (h : ∀ w', C w' -> atR P ops KQ facts taken a w') : atR P ops KQ facts taken a w := h w hC
theorem frozenB {w w1 : World} {cs : Array Value} {T : Nat} (hb : Below (w.alloc (.cells cs T)).heap.size (w.alloc (.cells cs T)) w1) (j : Nat) : w1.frozen? ⟨w.heap.size, j, none⟩ = false := by
 rw [hb.frozen (by simp)]
 simp
theorem undrew {w w1 : World} (h : Below w.drew.heap.size w.drew w1) : Below w.heap.size w w1 := ⟨h.os, h.tape, h.output, h.size, h.block⟩
theorem rec_Check_put (r : RowV) (w : World) (hkd : r.kind = 3) (hst : r.stage = 1) (hid0 : r.id = 0) (hc : r.client.length <= 9223372036854775807) (ht : r.topic.length <= 9223372036854775807) (hA : AnyOK r.topic) :
  Calls Tryz.prog 53 #[.agg r.vals] w fun e w' => e = .returned (.int .i64 (if putMay r then 0 else 2)) /\ Below w.heap.size w w' := by
 have C7 := hid fun w => kinds7_put r w hst hid0 hc ht hA
 have C8 := hid fun w => kinds8 r w
 have CK := hid rec_kinds;clear hst hid0 hc ht hA;obtain ⟨kind, client, seq, id, topic, body, qos, retain, stage⟩ := r
 simp only at hkd
 subst hkd;obtain ⟨bm, hbm⟩ : ∃ b, putMay ⟨3, client, seq, id, topic, body, qos, retain, stage⟩ = b := ⟨_, rfl⟩
 rw [hbm] at C7 ⊢
 clear hbm;unfold RowV.vals at *
 go_enter Tryz.func53, Tryz.ntmps53
 go_wp2
 refine regionQ [(1000, fun w' => w'.cell? ⟨w.heap.size, 0, none⟩ = some (.int .i64 3))] (by kernel_rfl) ⟨by go_simp, trivial⟩ fun KQ hKQ => ?_
 refine tQ [1] ?_;refine lQ 2 0 ?_;refine stepQ2 0 7 rfl rfl (by kernel_rfl) (by decide) (by kernel_rfl) (by kernel_rfl) (fun K hK => ?_) (fun K hK => ?_)
 ·try simp only [GO]
  go_simp;refine (CK.out _).mono ?_
  rintro e w1 ⟨rfl, hm, hb⟩
  replace hb := undrew hb
  replace hm : w1.heap[w.heap.size + 1]? = some (.map kindsE 5) := by simpa using hm
  have hlt : w.heap.size + 1 < w1.heap.size := by
   rcases Nat.lt_or_ge (w.heap.size + 1) w1.heap.size with h | h
   ·exact h
   ·rw [Array.getElem?_eq_none h] at hm; cases hm
  have hm' : ∀ o, (w1.alloc o).heap[w.heap.size + 1]? = some (.map kindsE 5) := fun o => (Below.heap_alloc _ _ _ hlt).trans hm
  have HL' := fun o => run_lookup_at (P := Tryz.prog) 189 30 187 .i64 Tryz.underlying189 Tryz.underlying30 _ _ kindsE 5 (hm' o) 3 _ 2 rfl true
  have HL := run_lookup_at (P := Tryz.prog) 189 30 187 .i64 Tryz.underlying189 Tryz.underlying30 _ _ kindsE 5 hm 3 _ 2 rfl true
  simp only [kindV] at HL HL'
  refine hK _ _ ⟨⟨fun _ => cellB hb (j := 0) rfl, trivial⟩, ?_⟩
  clear hK K;refine stepQ2 3 7 rfl rfl (by kernel_rfl) (by decide) (by kernel_rfl) (by kernel_rfl) (fun K hK => ?_) (fun K hK => ?_)
  ·try simp only [GO]
   go_simp;refine hK _ _ ⟨⟨fun _ => cellB hb (j := 0) rfl, trivial⟩, ?_⟩
   clear hK K;refine tQ [4, 5, 6] ?_;refine sQ 7 fun K hK => ?_;simp only [GO];go_simp;refine hK _ _ ⟨⟨fun _ => cellB (hb.alloc hb.size _) (j := 0) rfl, trivial⟩, ?_⟩
   clear hK K;refine sQ 8 fun K hK => ?_;simp only [GO];go_simp;refine hK _ _ ⟨⟨fun _ => cellB (hb.alloc hb.size _) (j := 0) rfl, trivial⟩, ?_⟩
   clear hK K;refine sQ 9 fun K hK => ?_;simp only [GO];go_simp;refine hK _ _ ⟨⟨fun _ => cellB (hb.alloc hb.size _) (j := 0) rfl, trivial⟩, ?_⟩
   clear hK K;refine dQ (hKQ.out _ _ ?_);clear hKQ KQ;have g0 := cB hb 0 rfl
   have g1 := cB hb 1 rfl
   have g2 := cB hb 2 rfl
   have g3 := cB hb 3 rfl
   have g4 := cB hb 4 rfl
   have g5 := cB hb 5 rfl
   have g6 := cB hb 6 rfl
   have g7 := cB hb 7 rfl
   have g8 := cB hb 8 rfl
   cases bm
   ·go_wp2_with (go_at_call 159; refine (C7.out _).mono ?_; rintro e w2 ⟨rfl, hb2⟩; replace hb2 := (hb.alloc hb.size _).trans (hb2.mono (hb.alloc hb.size _).size))
    go_ret
    exact ⟨rfl, ((Below.refl w.heap.size w).alloc (Nat.le_refl _) _).trans (hb2.mono (by simp))⟩
   ·go_wp2_with (first
     | (go_at_call 159; refine (C7.out _).mono ?_; rintro e w2 ⟨rfl, hb2⟩; have f2 := cellB (w := w1) hb2 (j := 2) rfl; replace hb2 := (hb.alloc hb.size _).trans (hb2.mono (hb.alloc hb.size _).size)
        have g0 := cellB hb2 (j := 0) rfl
        have g1 := cellB hb2 (j := 1) rfl
        have g2 := cellB hb2 (j := 2) rfl
        have g3 := cellB hb2 (j := 3) rfl
        have g4 := cellB hb2 (j := 4) rfl
        have g5 := cellB hb2 (j := 5) rfl
        have g6 := cellB hb2 (j := 6) rfl
        have g7 := cellB hb2 (j := 7) rfl
        have g8 := cellB hb2 (j := 8) rfl
      )
     | (go_at_call 160; refine (C8.out _).mono ?_; rintro e w3 ⟨rfl, hb3⟩; replace hb3 := hb2.trans (hb3.mono hb2.size)
        have g0 := cB hb3 0 rfl
        have g1 := cB hb3 1 rfl
        have g2 := cB hb3 2 rfl
        have g3 := cB hb3 3 rfl
        have g4 := cB hb3 4 rfl
        have g5 := cB hb3 5 rfl
        have g6 := cB hb3 6 rfl
        have g7 := cB hb3 7 rfl
        have g8 := cB hb3 8 rfl
      ))
    go_ret
    exact ⟨rfl, (((Below.refl w.heap.size w).alloc (Nat.le_refl _) _).trans (hb3.mono (by simp))).alloc (by have := hb3.size; simp at this; omega) _⟩
  ·try simp only [GO]
   go_simp;refine hK _ _ ⟨⟨fun _ => cellB (hb.alloc hb.size _) (j := 0) rfl, trivial⟩, ?_⟩
   clear hK K;refine sQ 3 fun K hK => ?_;simp only [GO];go_simp;refine hK _ _ ⟨⟨fun _ => cellB (hb.alloc hb.size _) (j := 0) rfl, trivial⟩, ?_⟩
   clear hK K;refine tQ [4, 5, 6] ?_;refine sQ 8 fun K hK => ?_;simp only [GO];go_simp;refine hK _ _ ⟨⟨fun _ => cellB (hb.alloc hb.size _) (j := 0) rfl, trivial⟩, ?_⟩
   clear hK K;refine sQ 9 fun K hK => ?_;simp only [GO];go_simp;refine hK _ _ ⟨⟨fun _ => cellB (hb.alloc hb.size _) (j := 0) rfl, trivial⟩, ?_⟩
   clear hK K;refine dQ (hKQ.out _ _ ?_);clear hKQ KQ;have g0 := cB hb 0 rfl
   have g1 := cB hb 1 rfl
   have g2 := cB hb 2 rfl
   have g3 := cB hb 3 rfl
   have g4 := cB hb 4 rfl
   have g5 := cB hb 5 rfl
   have g6 := cB hb 6 rfl
   have g7 := cB hb 7 rfl
   have g8 := cB hb 8 rfl
   cases bm
   ·go_wp2_with (go_at_call 159; refine (C7.out _).mono ?_; rintro e w2 ⟨rfl, hb2⟩; replace hb2 := (hb.alloc hb.size _).trans (hb2.mono (hb.alloc hb.size _).size))
    go_ret
    exact ⟨rfl, ((Below.refl w.heap.size w).alloc (Nat.le_refl _) _).trans (hb2.mono (by simp))⟩
   ·go_wp2_with (first
     | (go_at_call 159; refine (C7.out _).mono ?_; rintro e w2 ⟨rfl, hb2⟩; have f2 := cellB (w := w1) hb2 (j := 2) rfl; replace hb2 := (hb.alloc hb.size _).trans (hb2.mono (hb.alloc hb.size _).size)
        have g0 := cellB hb2 (j := 0) rfl
        have g1 := cellB hb2 (j := 1) rfl
        have g2 := cellB hb2 (j := 2) rfl
        have g3 := cellB hb2 (j := 3) rfl
        have g4 := cellB hb2 (j := 4) rfl
        have g5 := cellB hb2 (j := 5) rfl
        have g6 := cellB hb2 (j := 6) rfl
        have g7 := cellB hb2 (j := 7) rfl
        have g8 := cellB hb2 (j := 8) rfl
      )
     | (go_at_call 160; refine (C8.out _).mono ?_; rintro e w3 ⟨rfl, hb3⟩; replace hb3 := hb2.trans (hb3.mono hb2.size)
        have g0 := cB hb3 0 rfl
        have g1 := cB hb3 1 rfl
        have g2 := cB hb3 2 rfl
        have g3 := cB hb3 3 rfl
        have g4 := cB hb3 4 rfl
        have g5 := cB hb3 5 rfl
        have g6 := cB hb3 6 rfl
        have g7 := cB hb3 7 rfl
        have g8 := cB hb3 8 rfl
      ))
    go_ret
    exact ⟨rfl, (((Below.refl w.heap.size w).alloc (Nat.le_refl _) _).trans (hb3.mono (by simp))).alloc (by have := hb3.size; simp at this; omega) _⟩
 ·try simp only [GO]
  go_simp;refine hK _ _ ⟨⟨fun _ => by go_simp, trivial⟩, ?_⟩
  clear hK K;refine sQ 0 fun K hK => ?_;simp only [GO];go_simp;refine (CK.out _).mono ?_
  rintro e w1 ⟨rfl, hm, hb⟩
  replace hb := undrew hb
  have hbr := below_pop hb
  have k0 := cellB hb (j := 0) rfl
  have k1 := cellB hb (j := 1) rfl
  have k2 := cellB hb (j := 2) rfl
  have k3 := cellB hb (j := 3) rfl
  have k4 := cellB hb (j := 4) rfl
  replace hm : w1.heap[w.heap.size + 2]? = some (.map kindsE 5) := by simpa using hm
  have HL := run_lookup_at (P := Tryz.prog) 189 30 187 .i64 Tryz.underlying189 Tryz.underlying30 _ _ kindsE 5 hm 3 _ 2 rfl true
  simp only [kindV] at HL
  refine hK _ _ ⟨⟨fun _ => cellB hbr (j := 0) rfl, trivial⟩, ?_⟩
  clear hK K;refine sQ 3 fun K hK => ?_;simp only [GO];go_simp;refine hK _ _ ⟨⟨fun _ => cellB hbr (j := 0) rfl, trivial⟩, ?_⟩
  clear hK K;refine tQ [4, 5, 6] ?_;refine sQ 8 fun K hK => ?_;simp only [GO];have z0 := frozenB hb 0
  have z1 := frozenB hb 1
  have z2 := frozenB hb 2
  have z3 := frozenB hb 3
  have z4 := frozenB hb 4
  simp only [World.size_alloc] at k0 k1 k2 k3 k4 z0 z1 z2 z3 z4
  go_simp;have hbs := fun v0 v1 v2 v3 v4 => (((((hbr.setCell (p := ⟨w.heap.size + 1, 0, none⟩) (by simp) v0).setCell (p := ⟨w.heap.size + 1, 1, none⟩) (by simp) v1).setCell (p := ⟨w.heap.size + 1, 2, none⟩) (by simp) v2).setCell (p := ⟨w.heap.size + 1, 3, none⟩) (by simp) v3).setCell (p := ⟨w.heap.size + 1, 4, none⟩) (by simp) v4)
  refine hK _ _ ⟨⟨fun _ => cellB (hbs _ _ _ _ _) (j := 0) rfl, trivial⟩, ?_⟩
  clear hK K;refine atR_gen (fun w' => Below (w.alloc (.cells #[.int .i64 3, .string ⟨client.toArray⟩, .int .i64 seq, .int .i64 id, .string ⟨topic.toArray⟩, .string ⟨body.toArray⟩, .int .i64 qos, .bool retain, .int .i64 stage] 33)).heap.size (w.alloc (.cells #[.int .i64 3, .string ⟨client.toArray⟩, .int .i64 seq, .int .i64 id, .string ⟨topic.toArray⟩, .string ⟨body.toArray⟩, .int .i64 qos, .bool retain, .int .i64 stage] 33)) w' /\ w'.cell? ⟨w.heap.size + 1, 1, none⟩ = some (.func (.func 159) #[] #[]) /\ w'.cell? ⟨w.heap.size + 1, 2, none⟩ = some (.func (.func 160) #[] #[]) /\ w.heap.size + 1 < w'.heap.size) ⟨hbs _ _ _ _ _, by go_simp, by go_simp, by have := hb.size; simp at this ⊢; omega⟩ fun w2 ⟨hb, f1, f2, hlt⟩ => ?_
  refine sQ 9 fun K hK => ?_;simp only [GO];go_simp;refine hK _ _ ⟨⟨fun _ => cellB hb (j := 0) rfl, trivial⟩, ?_⟩
  clear hK K;refine dQ (hKQ.out _ _ ?_);clear hKQ KQ;have g0 := cellB hb (j := 0) rfl
  have g1 := cellB hb (j := 1) rfl
  have g2 := cellB hb (j := 2) rfl
  have g3 := cellB hb (j := 3) rfl
  have g4 := cellB hb (j := 4) rfl
  have g5 := cellB hb (j := 5) rfl
  have g6 := cellB hb (j := 6) rfl
  have g7 := cellB hb (j := 7) rfl
  have g8 := cellB hb (j := 8) rfl
  cases bm
  ·go_wp2_with (go_at_call 159; refine (C7.out _).mono ?_; rintro e w3 ⟨rfl, hb2⟩; replace hb2 := hb.trans (hb2.mono hb.size))
   go_ret
   exact ⟨rfl, below_pop hb2⟩
  ·go_wp2_with (first
    | (go_at_call 159; refine (C7.out _).mono ?_; rintro e w3 ⟨rfl, hb3⟩; have f3 := (hb3.cell (p := ⟨w.heap.size + 1, 2, none⟩) hlt).trans f2; replace hb3 := hb.trans (hb3.mono hb.size)
       have g0 := cellB hb3 (j := 0) rfl
       have g1 := cellB hb3 (j := 1) rfl
       have g2 := cellB hb3 (j := 2) rfl
       have g3 := cellB hb3 (j := 3) rfl
       have g4 := cellB hb3 (j := 4) rfl
       have g5 := cellB hb3 (j := 5) rfl
       have g6 := cellB hb3 (j := 6) rfl
       have g7 := cellB hb3 (j := 7) rfl
       have g8 := cellB hb3 (j := 8) rfl
     )
    | (go_at_call 160; refine (C8.out _).mono ?_; rintro e w4 ⟨rfl, hb4⟩; replace hb4 := hb3.trans (hb4.mono hb3.size)
       have g0 := cB hb4 0 rfl
       have g1 := cB hb4 1 rfl
       have g2 := cB hb4 2 rfl
       have g3 := cB hb4 3 rfl
       have g4 := cB hb4 4 rfl
       have g5 := cB hb4 5 rfl
       have g6 := cB hb4 6 rfl
       have g7 := cB hb4 7 rfl
       have g8 := cB hb4 8 rfl
     ))
   go_ret
   exact ⟨rfl, ((below_pop hb4).alloc (by have := (below_pop hb4).size; omega) _)⟩
end
section
def popN : Nat -> Nat -> Nat
 | 0, _ => 0
 | n + 1, w => w % 2 + popN n (w / 2)
theorem popN_zero (n : Nat) : popN n 0 = 0 := by
 induction n with
 | zero => rfl
 | succ n ih => simp [popN, ih]
theorem and_half (a b : Nat) : (a &&& b) / 2 = a / 2 &&& b / 2 := by
 have := Nat.shiftRight_and_distrib (a := a) (b := b) (i := 1)
 simpa [Nat.shiftRight_succ] using this
theorem xor_half (a b : Nat) : (a ^^^ b) / 2 = a / 2 ^^^ b / 2 := by
 have := Nat.shiftRight_xor_distrib (a := a) (b := b) (i := 1)
 simpa [Nat.shiftRight_succ] using this
theorem and_low (a b : Nat) : (a &&& b) % 2 = a % 2 &&& b % 2 := by
 have := Nat.and_mod_two_pow (a := a) (b := b) (n := 1)
 simpa using this
theorem xor_low (a b : Nat) : (a ^^^ b) % 2 = a % 2 ^^^ b % 2 := by
 have := Nat.xor_mod_two_pow (a := a) (b := b) (n := 1)
 simpa using this
theorem popN_and (n w : Nat) (h0 : w ≠ 0) (h : w < 2 ^ n) : popN n (w &&& (w - 1)) + 1 = popN n w := by
 induction n generalizing w with
 | zero => simp at h; omega
 | succ n ih =>
  simp only [popN]
  rw [and_low, and_half]
  rcases Nat.mod_two_eq_zero_or_one w with h1 | h1
  ·have hk : w / 2 ≠ 0 := by omega
   have e1 : (w - 1) / 2 = w / 2 - 1 := by omega
   have := ih (w / 2) hk (by omega)
   rw [h1, e1]
   simp
   omega
  ·have e1 : (w - 1) / 2 = w / 2 := by omega
   have e2 : (w - 1) % 2 = 0 := by omega
   rw [h1, e1, e2, Nat.and_self]
   simp
   omega
theorem popN_xor (n w k : Nat) (hk : k < n) : (w.testBit k = true -> popN n (w ^^^ 2 ^ k) + 1 = popN n w) /\ (w.testBit k = false -> popN n (w ^^^ 2 ^ k) = popN n w + 1) := by
 induction n generalizing w k with
 | zero => omega
 | succ n ih =>
  simp only [popN]
  rw [xor_low, xor_half]
  cases k with
  | zero =>
   simp only [Nat.pow_zero, Nat.testBit_zero, decide_eq_true_eq, decide_eq_false_iff_not]
   have : (1 / 2 : Nat) = 0 := rfl
   rw [this, Nat.xor_zero]
   rcases Nat.mod_two_eq_zero_or_one w with h1 | h1 <;> rw [h1] <;> simp <;> omega
  | succ k =>
   have e1 : 2 ^ (k + 1) / 2 = 2 ^ k := by omega
   have e2 : 2 ^ (k + 1) % 2 = 0 := by omega
   rw [e1, e2, Nat.xor_zero]
   have := ih (w / 2) k (by omega)
   rw [Nat.testBit_succ]
   constructor
   ·intro h; have := this.1 h; omega
   ·intro h; have := this.2 h; omega
def tot : Nat -> (Nat -> Nat) -> Nat
 | 0, _ => 0
 | n + 1, W => tot n W + popN 64 (W n)
def tog (W : Nat -> Nat) (n : Nat) : Nat -> Nat := fun i => if i = n / 64 then W i ^^^ 2 ^ (n % 64) else W i
theorem tot_other (W : Nat -> Nat) (n m : Nat) (h : m <= n / 64) : tot m (tog W n) = tot m W := by
 induction m with
 | zero => rfl
 | succ m ih =>
  have : m ≠ n / 64 := by omega
  simp [tot, ih (by omega), tog, this]
theorem tot_tog (W : Nat -> Nat) (n m : Nat) (h : n / 64 < m) : ((W (n / 64)).testBit (n % 64) = true -> tot m (tog W n) + 1 = tot m W) /\ ((W (n / 64)).testBit (n % 64) = false -> tot m (tog W n) = tot m W + 1) := by
 have hk : n % 64 < 64 := Nat.mod_lt _ (by decide)
 have hp := popN_xor 64 (W (n / 64)) (n % 64) hk
 induction m with
 | zero => omega
 | succ m ih =>
  simp only [tot]
  rcases Nat.lt_or_ge (n / 64) m with h1 | h1
  ·have h2 := ih h1
   have h3 : m ≠ n / 64 := by omega
   have h4 : tog W n m = W m := by simp [tog, h3]
   rw [h4]
   constructor
   ·intro h; have := h2.1 h; omega
   ·intro h; have := h2.2 h; omega
  ·have h3 : m = n / 64 := by omega
   have h4 : tog W n m = W m ^^^ 2 ^ (n % 64) := by simp [tog, h3]
   rw [h4, tot_other W n m (by omega)]
   subst h3;constructor
   ·intro h; have := hp.1 h; omega
   ·intro h; have := hp.2 h; omega
structure SetIs (W : Nat -> Nat) (ids : List Nat) : Prop where
 lt : ∀ i, W i < 18446744073709551616
 has : ∀ n, n < 65536 -> (W (n / 64)).testBit (n % 64) = decide (n ∈ ids)
 tot : tot 1024 W = ids.length
theorem tot_le (W : Nat -> Nat) (m : Nat) : tot m W <= 64 * m := by
 have hp : ∀ n x, popN n x <= n := by
  intro n
  induction n with
  | zero => intro x; simp [popN]
  | succ n ih => intro x; have := ih (x / 2); simp only [popN]; omega
 induction m with
 | zero => simp [tot]
 | succ m ih => have := hp 64 (W m); simp only [tot]; omega
theorem tot_zero (m : Nat) : tot m (fun _ => 0) = 0 := by
 induction m with
 | zero => rfl
 | succ m ih => simp [YtoinabapaeebfaaGreatDoor.tot, ih, popN_zero]
theorem SetIs.nil : SetIs (fun _ => 0) [] := ⟨fun _ => by decide, fun n _ => by simp, by simp [tot_zero]⟩
theorem SetIs.perm {W : Nat -> Nat} {l l' : List Nat} (h : SetIs W l) (p : l.Perm l') : SetIs W l' :=
 ⟨h.lt, fun n hn => by rw [h.has n hn]; simp [p.mem_iff], by rw [h.tot, p.length_eq]⟩
theorem tog_lt {W : Nat -> Nat} (h : ∀ i, W i < 18446744073709551616) (n : Nat) : ∀ i, tog W n i < 18446744073709551616 := by
 intro i
 unfold tog
 have hk : n % 64 < 64 := Nat.mod_lt _ (by decide)
 split
 ·exact Nat.xor_lt_two_pow (n := 64) (h i) (Nat.pow_lt_pow_right (by decide) hk)
 ·exact h i
theorem tog_bit (W : Nat -> Nat) (n m : Nat) : (tog W n (m / 64)).testBit (m % 64) = ((W (m / 64)).testBit (m % 64) ^^ decide (m = n)) := by
 unfold tog
 by_cases h : m / 64 = n / 64
 ·rw [if_pos h, Nat.testBit_xor, Nat.testBit_two_pow]
  have : (n % 64 = m % 64) = (m = n) := by
   apply propext
   constructor
   ·intro h2; omega
   ·intro h2; rw [h2]
  simp [this]
 ·rw [if_neg h]
  have : m ≠ n := fun e => h (by rw [e])
  simp [this]
theorem SetIs.come {W : Nat -> Nat} {l : List Nat} (h : SetIs W l) {n : Nat} (hn : n < 65536) (hnot : n ∉ l) : SetIs (tog W n) (n :: l) := by
 have hb : (W (n / 64)).testBit (n % 64) = false := by rw [h.has n hn]; simp [hnot]
 refine ⟨tog_lt h.lt n, fun m hm => ?_, ?_⟩
 ·rw [tog_bit, h.has m hm]
  by_cases e : m = n
  ·subst e; simp [hnot]
  ·simp [e]
 ·rw [(tot_tog W n 1024 (by omega)).2 hb, h.tot]; rfl
theorem SetIs.go {W : Nat -> Nat} {l : List Nat} (h : SetIs W l) {n : Nat} (hn : n < 65536) (hin : n ∈ l) (hd : l.Nodup) : SetIs (tog W n) (l.erase n) := by
 have hb : (W (n / 64)).testBit (n % 64) = true := by rw [h.has n hn]; simp [hin]
 refine ⟨tog_lt h.lt n, fun m hm => ?_, ?_⟩
 ·rw [tog_bit, h.has m hm]
  by_cases e : m = n
  ·subst e; simp [hin, hd.not_mem_erase]
  ·simp [e, List.mem_erase_of_ne e]
 ·have := (tot_tog W n 1024 (by omega)).1 hb
  rw [List.length_erase_of_mem hin]
  rw [h.tot] at this
  have := List.length_pos_of_mem hin
  omega
theorem SetIs.le {W : Nat -> Nat} {l : List Nat} (h : SetIs W l) (i : Nat) : (W i : Int) < 18446744073709551616 := by have := h.lt i; omega
def setCells (W : Nat -> Nat) : Array Value := Array.ofFn fun i : Fin 1024 => .int .u64 (W i)
theorem setCells_get (W : Nat -> Nat) (i : Nat) (h : i < 1024) : (setCells W)[i]? = some (.int .u64 (W i)) := by simp [setCells, h]
theorem setCells_size (W : Nat -> Nat) : (setCells W).size = 1024 := by simp [setCells]
theorem setCells_tog (W : Nat -> Nat) (n : Nat) : (setCells W).setIfInBounds (n / 64) (.int .u64 ((W (n / 64) ^^^ 2 ^ (n % 64) : Nat) : Int)) = setCells (tog W n) := by
 apply Array.ext_getElem?
 intro i
 rw [Array.getElem?_setIfInBounds, setCells_size]
 by_cases e : n / 64 = i
 ·subst e
  by_cases h : n / 64 < 1024
  ·simp [setCells_get _ _ h, tog, h]
  ·simp [setCells, h]
 ·have e' : ¬ i = n / 64 := fun h => e h.symm
  simp only [e, if_false]
  by_cases h : i < 1024
  ·simp [setCells_get _ _ h, tog, e']
  ·simp [setCells, h]
theorem setCells_zero : setCells (fun _ => 0) = Array.replicate 1024 (.int .u64 0) := by
 apply Array.ext
 ·simp [setCells]
 ·intro i h1 h2
  simp [setCells]
def nxt (z : Int) : Int := z % 65535 + 1
def firstI : Nat -> Int -> List Nat -> Int
 | 0, z, _ => z
 | k + 1, z, ids => if z.toNat ∈ ids then firstI k (nxt z) ids else z
theorem nxt_range (z : Int) : 1 <= nxt z /\ nxt z <= 65535 := by
 have q3 : 0 <= z % 65535 := Int.emod_nonneg _ (by omega)
 have q4 : z % 65535 < 65535 := Int.emod_lt_of_pos _ (by omega)
 unfold nxt; omega
theorem firstI_range (k : Nat) (z : Int) (ids : List Nat) (h : 1 <= z /\ z <= 65535) : 1 <= firstI k z ids /\ firstI k z ids <= 65535 := by
 induction k generalizing z with
 | zero => exact h
 | succ k ih =>
  unfold firstI
  split
  ·exact ih _ (nxt_range z)
  ·exact h
def itN : Nat -> Int -> Int
 | 0, z => z
 | k + 1, z => itN k (nxt z)
theorem itN_eq (k : Nat) (z : Int) (h : 1 <= z /\ z <= 65535) : itN k z = (z - 1 + k) % 65535 + 1 := by
 induction k generalizing z with
 | zero => unfold itN; omega
 | succ k ih =>
  unfold itN
  rw [ih _ (nxt_range z)]
  unfold nxt
  omega
theorem firstI_in (n : Nat) (z : Int) (ids : List Nat) (h : (firstI n z ids).toNat ∈ ids) : ∀ k, k <= n -> (itN k z).toNat ∈ ids := by
 induction n generalizing z with
 | zero =>
  intro k hk
  obtain rfl : k = 0 := by omega
  exact h
 | succ n ih =>
  unfold firstI at h
  split at h
  ·rename_i hz
   intro k hk
   cases k with
   | zero => exact hz
   | succ k => exact ih _ h k (by omega)
  ·rename_i hz; exact absurd h hz
theorem pigeon (l ids : List Nat) (hd : l.Nodup) (hs : ∀ x ∈ l, x ∈ ids) : l.length <= ids.length := by
 induction l generalizing ids with
 | nil => simp
 | cons x l ih =>
  have h1 := hs x (by simp)
  have h2 := ih (ids.erase x) (List.nodup_cons.1 hd).2 (fun y hy => (List.mem_erase_of_ne (fun e => (List.nodup_cons.1 hd).1 (by subst e; exact hy))).2 (hs y (by simp [hy])))
  rw [List.length_erase_of_mem h1] at h2
  have := List.length_pos_of_mem h1
  simp; omega
theorem firstI_free (z : Int) (ids : List Nat) (h : 1 <= z /\ z <= 65535) (hl : ids.length < 65535) : (firstI ids.length z ids).toNat ∉ ids := by
 intro hin
 have h1 := firstI_in _ _ _ hin
 have h2 := pigeon ((List.range (ids.length + 1)).map fun k => (itN k z).toNat) ids ?_ ?_
 ·simp at h2
  omega
 ·rw [List.nodup_iff_pairwise_ne, List.pairwise_map]
  refine List.Pairwise.imp_of_mem ?_ (List.nodup_iff_pairwise_ne.1 List.nodup_range)
  intro a b ha hb hab he
  simp at ha hb
  rw [itN_eq _ _ h, itN_eq _ _ h] at he
  omega
 ·intro x hx
  simp at hx
  obtain ⟨k, hk, rfl⟩ := hx
  exact h1 k (by omega)
end
end Go.Proofs.YtoinabapaeebfaaGreatDoor
