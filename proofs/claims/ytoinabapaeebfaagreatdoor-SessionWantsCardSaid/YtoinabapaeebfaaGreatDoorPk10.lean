/- Contracts of package records (part 3): kinds' closures. · Contracts of package records (part 4): the session's closures, and Check. · Regions: two things that act may come up now. -/
import Derived.Test.YtoinabapaeebfaaGreatDoorPk09
import Derived.Handy
import Derived.Test.YtoinabapaeebfaaGreatDoorPk06
set_option linter.unusedSimpArgs false
set_option linter.unusedVariables false
namespace Go.Proofs.YtoinabapaeebfaaGreatDoor
open Go.RowKit Go.Shelf

theorem rec_within_b (n a b : Int) (v : Bool) (h : (decide (a ≤ n) && decide (n ≤ b)) = v) (w : World) :
    Calls Tryz.prog 151 #[.int .i64 n, .int .i64 a, .int .i64 b] w fun e w' => e = .returned (.bool v) ∧ w = w' := by
  have := rec_within n a b w
  rwa [h] at this

theorem cellB {w w1 : World} {cs : Array Value} {T : Nat} (hb : Below (w.alloc (.cells cs T)).heap.size (w.alloc (.cells cs T)) w1) {j : Nat} {v : Value} (hv : cs[j]? = some v) :
    w1.cell? ⟨w.heap.size, j, none⟩ = some v := by
  rw [hb.cell (by simp [World.size_alloc])]
  exact (World.cell?_alloc_at _ _ _ _ rfl).trans hv

/-- May a row be put? -/
def putMay (r : RowV) : Bool := clientR r.client && (decide (0 ≤ r.seq) && decide (r.seq ≤ 4611686018427387904)) && nameR r.topic && decide ((r.body.length : Int) ≤ 2000) && (decide (1 ≤ r.qos) && decide (r.qos ≤ 2))

set_option maxRecDepth 100000 in
set_option maxHeartbeats 800000 in
theorem kinds7_put (r : RowV) (w : World) (hst : r.stage = 1) (hid0 : r.id = 0) (hc : r.client.length ≤ 9223372036854775807) (ht : r.topic.length ≤ 9223372036854775807) (hA : AnyOK r.topic) :
    Calls Tryz.prog 159 #[.agg r.vals] w fun e w' => e = .returned (.bool (putMay r)) ∧ Below w.heap.size w w' := by
  obtain ⟨kind, client, seq, id, topic, body, qos, retain, stage⟩ := r
  simp only at hst hid0 hc ht hA
  subst hst hid0
  obtain ⟨bc, hbc⟩ : ∃ b, clientR client = b := ⟨_, rfl⟩
  obtain ⟨bs, hbs⟩ : ∃ b, (decide (0 ≤ seq) && decide (seq ≤ 4611686018427387904)) = b := ⟨_, rfl⟩
  obtain ⟨bn, hbn⟩ : ∃ b, nameR topic = b := ⟨_, rfl⟩
  obtain ⟨bq, hbq⟩ : ∃ b, (decide (1 ≤ qos) && decide (qos ≤ 2)) = b := ⟨_, rfl⟩
  obtain ⟨bb, hbb⟩ : ∃ b, decide ((body.length : Int) ≤ 2000) = b := ⟨_, rfl⟩
  have HP := hid (show putMay ⟨kind, client, seq, 0, topic, body, qos, retain, 1⟩ = (bc && bs && bn && bb && bq) by unfold putMay; simp only; rw [hbc, hbs, hbn, hbq, hbb])
  have CC := fun w => rec_client client w hc
  rw [hbc] at CC
  have CN := fun w => topic_Name topic w ht hA
  rw [hbn] at CN
  have CS := rec_within_b _ _ _ _ hbs
  have CQ := rec_within_b _ _ _ _ hbq
  have hsz : ByteArray.size ⟨body.toArray⟩ = body.length := by simp [ByteArray.size]
  have HCC := hid CC
  have HCN := hid CN
  have HCS := hid CS
  have HCQ := hid CQ
  clear CC CN CS CQ hbc hbs hbn hbq hc ht hA
  unfold RowV.vals
  have K : bc = false ∨ (bc = true ∧ bs = false) ∨ (bc = true ∧ bs = true ∧ bn = false) ∨ (bc = true ∧ bs = true ∧ bn = true ∧ bb = false) ∨ (bc = true ∧ bs = true ∧ bn = true ∧ bb = true) := by
    cases bc <;> cases bs <;> cases bn <;> cases bb <;> simp
  rcases K with rfl | ⟨rfl, rfl⟩ | ⟨rfl, rfl, rfl⟩ | ⟨rfl, rfl, rfl, rfl⟩ | ⟨rfl, rfl, rfl, rfl⟩
  case inr.inr.inr.inr =>
    have hle : (body.length : Int) ≤ 2000 := of_decide_eq_true hbb
    clear hbb
    cases bq
    all_goals
      go_enter Tryz.func159, Tryz.ntmps159
      go_wp2_with (first
        | (go_at_call 150; refine (HCC.out _).mono ?_; rintro e w1 ⟨rfl, hb⟩; have c2 := cellB hb (j := 2) rfl; have c4 := cellB hb (j := 4) rfl)
        | (go_at_call 63; refine (HCN.out _).mono ?_; rintro e w2 ⟨rfl, hb2⟩; replace hb := hb.trans (hb2.mono hb.size); have c5 := cellB hb (j := 5) rfl; have c6 := cellB hb (j := 6) rfl)
        | (go_at_call 151; refine (HCS.out _).mono ?_; rintro e w3 ⟨rfl, rfl⟩; clear HCS)
        | (go_at_call 151; refine (HCQ.out _).mono ?_; rintro e w3 ⟨rfl, rfl⟩))
      go_ret
      refine ⟨by rw [HP.out]; rfl, ?_⟩
      first | exact (Below.refl _ _).alloc (Nat.le_refl _) _ |>.trans (hb.mono (by simp)) | exact ((Below.refl w.heap.size w).alloc (Nat.le_refl _) _).trans (hb.mono (by simp))
  case inr.inr.inr.inl =>
    go_enter Tryz.func159, Tryz.ntmps159
    go_wp2_with (first
      | (go_at_call 150; refine (HCC.out _).mono ?_; rintro e w1 ⟨rfl, hb⟩; have c2 := cellB hb (j := 2) rfl; have c4 := cellB hb (j := 4) rfl)
      | (go_at_call 63; refine (HCN.out _).mono ?_; rintro e w2 ⟨rfl, hb2⟩; replace hb := hb.trans (hb2.mono hb.size); have c5 := cellB hb (j := 5) rfl; have c6 := cellB hb (j := 6) rfl)
      | (go_at_call 151; refine (HCS.out _).mono ?_; rintro e w3 ⟨rfl, rfl⟩; clear HCS)
      | (go_at_call 151; refine (HCQ.out _).mono ?_; rintro e w3 ⟨rfl, rfl⟩))
    go_ret
    refine ⟨by rw [HP.out]; rfl, ?_⟩
    first | exact (Below.refl _ _).alloc (Nat.le_refl _) _ |>.trans (hb.mono (by simp)) | exact ((Below.refl w.heap.size w).alloc (Nat.le_refl _) _).trans (hb.mono (by simp))
  all_goals
    clear hbb
    go_enter Tryz.func159, Tryz.ntmps159
    go_wp2_with (first
      | (go_at_call 150; refine (HCC.out _).mono ?_; rintro e w1 ⟨rfl, hb⟩; have c2 := cellB hb (j := 2) rfl; have c4 := cellB hb (j := 4) rfl)
      | (go_at_call 63; refine (HCN.out _).mono ?_; rintro e w2 ⟨rfl, hb2⟩; replace hb := hb.trans (hb2.mono hb.size); have c5 := cellB hb (j := 5) rfl; have c6 := cellB hb (j := 6) rfl)
      | (go_at_call 151; refine (HCS.out _).mono ?_; rintro e w3 ⟨rfl, rfl⟩; clear HCS)
      | (go_at_call 151; refine (HCQ.out _).mono ?_; rintro e w3 ⟨rfl, rfl⟩))
    go_ret
    refine ⟨by rw [HP.out]; rfl, ?_⟩
    first | exact (Below.refl _ _).alloc (Nat.le_refl _) _ |>.trans (hb.mono (by simp)) | exact ((Below.refl w.heap.size w).alloc (Nat.le_refl _) _).trans (hb.mono (by simp))
end Go.Proofs.YtoinabapaeebfaaGreatDoor
namespace Go.Proofs.YtoinabapaeebfaaGreatDoor
open Go.RowKit Go.Shelf

/-- May a session's row be? -/
def sessMay (r : RowV) : Bool := clientR r.client && (decide (0 ≤ r.seq) && decide (r.seq ≤ 4611686018427387904)) && (decide (0 ≤ r.id) && decide (r.id ≤ 4611686018427387904))
/-- What a session's row has. -/
def sessHas (r : RowV) : RowV := ⟨0, r.client, r.seq, r.id, [], [], 0, false, 0⟩

set_option maxRecDepth 100000 in
set_option maxHeartbeats 800000 in
theorem kinds1 (r : RowV) (w : World) (hc : r.client.length ≤ 9223372036854775807) :
    Calls Tryz.prog 149 #[.agg r.vals] w fun e w' => e = .returned (.bool (sessMay r)) ∧ Below w.heap.size w w' := by
  obtain ⟨kind, client, seq, id, topic, body, qos, retain, stage⟩ := r
  simp only at hc
  obtain ⟨bc, hbc⟩ : ∃ b, clientR client = b := ⟨_, rfl⟩
  obtain ⟨bs, hbs⟩ : ∃ b, (decide (0 ≤ seq) && decide (seq ≤ 4611686018427387904)) = b := ⟨_, rfl⟩
  obtain ⟨bi, hbi⟩ : ∃ b, (decide (0 ≤ id) && decide (id ≤ 4611686018427387904)) = b := ⟨_, rfl⟩
  have HP := hid (show sessMay ⟨kind, client, seq, id, topic, body, qos, retain, stage⟩ = (bc && bs && bi) by unfold sessMay; simp only; rw [hbc, hbs, hbi])
  have CC := fun w => rec_client client w hc
  rw [hbc] at CC
  have HCC := hid CC
  have HCS := hid (rec_within_b _ _ _ _ hbs)
  have HCI := hid (rec_within_b _ _ _ _ hbi)
  clear CC hbc hbs hbi hc
  unfold RowV.vals
  have K : bc = false ∨ (bc = true ∧ bs = false) ∨ (bc = true ∧ bs = true ∧ bi = false) ∨ (bc = true ∧ bs = true ∧ bi = true) := by
    cases bc <;> cases bs <;> cases bi <;> simp
  rcases K with rfl | ⟨rfl, rfl⟩ | ⟨rfl, rfl, rfl⟩ | ⟨rfl, rfl, rfl⟩
  all_goals
    go_enter Tryz.func149, Tryz.ntmps149
    go_wp2_with (first
      | (go_at_call 150; refine (HCC.out _).mono ?_; rintro e w1 ⟨rfl, hb⟩; have c2 := cellB hb (j := 2) rfl; have c3 := cellB hb (j := 3) rfl)
      | (go_at_call 151; refine (HCS.out _).mono ?_; rintro e w3 ⟨rfl, rfl⟩; clear HCS)
      | (go_at_call 151; refine (HCI.out _).mono ?_; rintro e w3 ⟨rfl, rfl⟩))
    go_ret
    refine ⟨by rw [HP.out]; rfl, ?_⟩
    exact ((Below.refl w.heap.size w).alloc (Nat.le_refl _) _).trans (hb.mono (by simp))

set_option maxRecDepth 100000 in
set_option maxHeartbeats 800000 in
theorem kinds2 (r : RowV) (w : World) :
    Calls Tryz.prog 152 #[.agg r.vals] w fun e w' => e = .returned (.agg (sessHas r).vals) ∧ Below w.heap.size w w' := by
  unfold RowV.vals sessHas
  go_enter Tryz.func152, Tryz.ntmps152
  go_wp2
  go_returns
  exact ⟨rfl, ((Below.refl w.heap.size w).alloc (Nat.le_refl _) _).alloc (by simp) _⟩

set_option maxRecDepth 100000 in
set_option maxHeartbeats 800000 in
theorem kinds8 (r : RowV) (w : World) :
    Calls Tryz.prog 160 #[.agg r.vals] w fun e w' => e = .returned (.agg r.vals) ∧ Below w.heap.size w w' := by
  unfold RowV.vals
  go_enter Tryz.func160, Tryz.ntmps160
  go_wp2
  go_returns
  exact ⟨rfl, ((Below.refl w.heap.size w).alloc (Nat.le_refl _) _).alloc (by simp) _⟩
end Go.Proofs.YtoinabapaeebfaaGreatDoor
namespace Go.Proofs.YtoinabapaeebfaaGreatDoor
open Go.RowKit Go.Shelf
section
variable {P : Program} {ops : Array Oper} {KQ : Act → World → Prop} {facts : List Fact} {taken : List Nat} {a : Act} {w : World}

/-- Two that act may come up now: both ways. -/
theorem stepQ2 (j1 j2 : Nat) {o1 o2 : Oper} (hj1 : ops[j1]? = some o1) (hj2 : ops[j2]? = some o2) (hr : Region.ready .any ops (listedOf ops taken) = [j1, j2]) (hlt : taken.length < ops.size)
    (hw1 : Region.wanted o1 (yielded ops a.tmps) = true) (hw2 : Region.wanted o2 (yielded ops a.tmps) = true)
    (h1 : ∀ K : Act → World → Prop, (∀ a' w', Both (HoldR (j1 :: taken) facts w') (atR P ops KQ facts (j1 :: taken) a' w') → K a' w') → o1.wp P a w K (onlyN KQ))
    (h2 : ∀ K : Act → World → Prop, (∀ a' w', Both (HoldR (j2 :: taken) facts w') (atR P ops KQ facts (j2 :: taken) a' w') → K a' w') → o2.wp P a w K (onlyN KQ)) : atR P ops KQ facts taken a w := by
  intro ht hcl hfr
  have hl1 : j1 < ops.size := (Array.getElem?_eq_some_iff.1 hj1).1
  have hl2 : j2 < ops.size := (Array.getElem?_eq_some_iff.1 hj2).1
  have go : ∀ (j : Nat) (oj : Oper), ops[j]? = some oj → j < ops.size → j ∈ Region.ready .any ops (listedOf ops taken) → Region.wanted oj (yielded ops a.tmps) = true →
      (∀ K : Act → World → Prop, (∀ a' w', Both (HoldR (j :: taken) facts w') (atR P ops KQ facts (j :: taken) a' w') → K a' w') → oj.wp P a w K (onlyN KQ)) →
      wpOp P ops (onlyN KQ) j (fun a' w' => FR facts ((listedOf ops taken).setIfInBounds j true) w' ∧ wpAnyR P .any ops (onlyN KQ) facts (ops.size - (j :: taken).length) ((listedOf ops taken).setIfInBounds j true) a' w') a w := by
    intro j oj hj hlj hrj hw h
    have ht' : ∀ i ∈ j :: taken, i < ops.size := fun i hi => by exact (List.mem_cons.1 hi).elim (fun e => e ▸ hlj) (ht i)
    unfold wpOp
    rw [hj]
    dsimp only
    rw [if_pos hw]
    refine .inl (h _ fun a' w' hb => ?_)
    have hf : FR facts (listedOf ops (j :: taken)) w' := fun f hf hl => hb.one.mem f hf (by rw [listedOf_get _ _ ht'] at hl; exact hl)
    exact ⟨hf, hb.two ht' (hcl.step hrj) hf⟩
  have e1 : ops.size - taken.length = (ops.size - (j1 :: taken).length) + 1 := by simp only [List.length_cons]; omega
  rw [e1]
  refine ⟨fun h0 => absurd (hr.symm.trans h0) (by simp), fun i hi => ?_⟩
  rw [hr] at hi
  have hi' : i = j1 ∨ i = j2 := by simpa using hi
  rcases hi' with rfl | rfl
  · exact go _ _ hj1 hl1 (by rw [hr]; simp) hw1 h1
  · exact go _ _ hj2 hl2 (by rw [hr]; simp) hw2 h2
end

section
variable {P : Program} {ops : Array Oper} {KQ : Act → World → Prop} {facts : List Fact} {taken : List Nat} {a : Act} {w : World}
theorem nilQ (i : Nat) {oi : Oper} (hi : ops[i]? = some oi) (hB : takeB ops (facts.map (·.1)) taken i = true) (hw : Region.wanted oi (yielded ops a.tmps) = true) {x : Operand} (hop : oi.op = .nilCheck x) {p : Addr} (hx : a.eval x = .pointer (some p))
    (h : atR P ops KQ facts (i :: taken) (a.put oi.dst (.pointer (some p))) w) : atR P ops KQ facts taken a w := by
  refine readQ i hi hB _ hw (fun w' _ => ?_) h
  simp [execOp, hop, hx]
end
end Go.Proofs.YtoinabapaeebfaaGreatDoor
