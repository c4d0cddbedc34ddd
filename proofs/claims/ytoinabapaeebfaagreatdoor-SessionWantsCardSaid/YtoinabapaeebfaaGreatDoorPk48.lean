/- The reference of layers 13 and 19: may a client, a name, a row be? · Levels, plainly: as the reference makes them, and as the program does. -/
import Derived.Test.YtoinabapaeebfaaGreatDoorPk46
import Derived.Test.YtoinabapaeebfaaGreatDoorPk28
import Derived.Test.YtoinabapaeebfaaGreatDoorPk47
import Derived.Test.YtoinabapaeebfaaGreatDoorPk35
set_option linter.unusedSimpArgs false
set_option linter.unusedVariables false
namespace Go.Proofs.YtoinabapaeebfaaGreatDoor
open Go.RowKit Go.Shelf

set_option maxRecDepth 100000 in
set_option maxHeartbeats 400000 in
theorem r19_number (z : Int) (w : World) : Calls Tryz.prog 105 #[.int .i64 z] w fun e w' => e = .returned (.bool (decide (0 ≤ z) && decide (z ≤ 4611686018427387904))) ∧ w = w' := by
  by_cases h : 0 ≤ z
  · go_enter Tryz.func105, Tryz.ntmps105
    go_wp2
    go_ret
    simp [h]
  · have d : decide (0 ≤ z) = false := decide_eq_false h
    go_enter Tryz.func105, Tryz.ntmps105
    go_wp2
    go_ret
    simp [d]

set_option maxRecDepth 100000 in
set_option maxHeartbeats 400000 in
theorem r19_client (s : List UInt8) (w : World) (hs : s.length ≤ 1000000) :
    Calls Tryz.prog 104 #[.string ⟨s.toArray⟩] w fun e w' => e = .returned (.bool (clientR s)) ∧ Below w.heap.size w w' := by
  have hsz : ByteArray.size ⟨s.toArray⟩ = s.length := by simp [ByteArray.size]
  have fin : ∀ b : Bool, clientR s = b → Ending.returned (.bool b) = .returned (.bool (clientR s)) := fun b h => by rw [h]
  have HF := hid fin
  clear fin
  by_cases h1 : s.length < 1
  · have d1 : decide ((s.length : Int) < 1) = true := decide_eq_true (by omega)
    have HB := hid (show clientR s = false by
      have : s = [] := List.eq_nil_of_length_eq_zero (by omega)
      subst this; rfl)
    go_enter Tryz.func104, Tryz.ntmps104
    go_wp2
    go_ret
    exact ⟨HF.out _ HB.out, Below.refl _ _⟩
  have e1 : s.isEmpty = false := by cases s <;> simp at h1 ⊢
  have d1 : decide ((s.length : Int) < 1) = false := decide_eq_false (by omega)
  by_cases h2 : s.length ≤ 23
  · have d2 : decide ((23 : Int) < (s.length : Int)) = false := decide_eq_false (by omega)
    have CR := hid (ref_Runes s w hs)
    have HB := hid (show clientR s = decide (wrongU s = -1) by unfold clientR; rw [e1]; simp [h2])
    go_enter Tryz.func104, Tryz.ntmps104
    go_wp2_with fail
    refine CR.out.mono ?_
    rintro e w1 ⟨hb, ⟨hw, v, rfl, -⟩ | ⟨hw, rfl⟩⟩
    · have hb := hid hb
      go_wp2
      go_ret
      exact ⟨HF.out _ (by rw [HB.out, hw]; rfl), hb.out⟩
    · have dw : decide (wrongU s < 0) = false := decide_eq_false (by omega)
      have hb := hid hb
      go_wp2
      go_ret
      exact ⟨HF.out _ (by rw [HB.out]; simp; omega), hb.out⟩
  · have d2 : decide ((23 : Int) < (s.length : Int)) = true := decide_eq_true (by omega)
    have HB := hid (show clientR s = false by unfold clientR; rw [e1]; simp [h2])
    go_enter Tryz.func104, Tryz.ntmps104
    go_wp2
    go_ret
    exact ⟨HF.out _ HB.out, Below.refl _ _⟩

set_option maxRecDepth 100000 in
set_option maxHeartbeats 400000 in
theorem r13_said (s : List UInt8) (w : World) (hs : s.length ≤ 1000000) :
    Calls Tryz.prog 66 #[.string ⟨s.toArray⟩] w fun e w' => e = .returned (.bool (saidR s)) ∧ Below w.heap.size w w' := by
  have hsz : ByteArray.size ⟨s.toArray⟩ = s.length := by simp [ByteArray.size]
  have fin : ∀ b : Bool, saidR s = b → Ending.returned (.bool b) = .returned (.bool (saidR s)) := fun b h => by rw [h]
  have HF := hid fin
  clear fin
  by_cases h1 : s.length < 1
  · have d1 : decide ((s.length : Int) < 1) = true := decide_eq_true (by omega)
    have HB := hid (show saidR s = false by
      have : s = [] := List.eq_nil_of_length_eq_zero (by omega)
      subst this; rfl)
    go_enter Tryz.func66, Tryz.ntmps66
    go_wp2
    go_ret
    exact ⟨HF.out _ HB.out, Below.refl _ _⟩
  have e1 : s.isEmpty = false := by cases s <;> simp at h1 ⊢
  have d1 : decide ((s.length : Int) < 1) = false := decide_eq_false (by omega)
  by_cases h2 : s.length ≤ 200
  · have d2 : decide ((200 : Int) < (s.length : Int)) = false := decide_eq_false (by omega)
    have CR := hid (ref_Runes s w hs)
    have HB := hid (show saidR s = decide (wrongU s = -1) by unfold saidR; rw [e1]; simp [h2])
    go_enter Tryz.func66, Tryz.ntmps66
    go_wp2_with fail
    refine CR.out.mono ?_
    rintro e w1 ⟨hb, ⟨hw, v, rfl, -⟩ | ⟨hw, rfl⟩⟩
    · have hb := hid hb
      go_wp2
      go_ret
      exact ⟨HF.out _ (by rw [HB.out, hw]; rfl), hb.out⟩
    · have dw : decide (wrongU s < 0) = false := decide_eq_false (by omega)
      have hb := hid hb
      go_wp2
      go_ret
      exact ⟨HF.out _ (by rw [HB.out]; simp; omega), hb.out⟩
  · have d2 : decide ((200 : Int) < (s.length : Int)) = true := decide_eq_true (by omega)
    have HB := hid (show saidR s = false by unfold saidR; rw [e1]; simp [h2])
    go_enter Tryz.func66, Tryz.ntmps66
    go_wp2
    go_ret
    exact ⟨HF.out _ HB.out, Below.refl _ _⟩

/-- How many of + and # a text has. -/
def signsR (s : List UInt8) : Nat := (s.filter fun b => b == 43 || b == 35).length
theorem signs_take (s : List UInt8) (k : Nat) (b : UInt8) (h : s[k]? = some b) : signsR (s.take (k + 1)) = signsR (s.take k) + (if b == 43 || b == 35 then 1 else 0) := by
  unfold signsR
  rw [List.take_add_one, h, Option.toList_some, List.filter_append, List.length_append]
  congr 1
  by_cases hb : (b == 43 || b == 35) = true <;> simp [hb]
theorem signs_any (s : List UInt8) : decide (signsR s = 0) = !anyR s := by
  unfold anyR Lib.containsAny
  induction s with
  | nil => rfl
  | cons b s ih =>
    have hge := Lib.indexAny_ge [43, 35] s
    have hcon : ([43, 35] : List UInt8).contains b = (b == 43 || b == 35) := by simp [List.contains_cons, beq_iff_eq]; rfl
    unfold Lib.indexAny
    rw [hcon]
    have hs : signsR (b :: s) = (if (b == 43 || b == 35) = true then 1 else 0) + signsR s := by
      unfold signsR
      rw [List.filter_cons]
      split <;> simp <;> omega
    rw [hs]
    by_cases hb : (b == 43 || b == 35) = true
    · rw [if_pos hb, if_pos hb]
      simp
    · rw [if_neg hb, if_neg hb, Nat.zero_add, ih]
      by_cases h0 : Lib.indexAny s [43, 35] = -1
      · simp [h0]
      · rw [if_neg (by simpa using h0)]
        have h1 : 0 ≤ Lib.indexAny s [43, 35] := by omega
        have h2 : 0 ≤ Lib.indexAny s [43, 35] + 1 := by omega
        simp [h1, h2]

set_option maxRecDepth 100000 in
set_option maxHeartbeats 1000000 in
theorem r13_signs (s : List UInt8) (w : World) (hs : s.length ≤ 1000000) :
    Calls Tryz.prog 68 #[.string ⟨s.toArray⟩] w fun e w' => e = .returned (.int .i64 (signsR s)) ∧ w = w' := by
  have hsz : ByteArray.size ⟨s.toArray⟩ = s.length := by simp [ByteArray.size]
  go_enter Tryz.func68, Tryz.ntmps68
  go_wp2
  go_loopw [3, 4] (fun n i wr => ∃ k : Nat, n = .int .i64 (signsR (s.take k) : Nat) ∧ i = .int .i64 k ∧ k ≤ s.length ∧ w = wr) (fun _ i _ => s.length - (intOf i).toNat)
  case atStart => exact ⟨0, rfl, rfl, Nat.zero_le _, rfl⟩
  case round =>
    obtain ⟨k, rfl, rfl, hk, rfl⟩ := hrel
    rcases Nat.lt_or_ge k s.length with hlt | hge
    · have dk : decide ((k : Int) < (s.length : Int)) = true := decide_eq_true (by omega)
      obtain ⟨b, hb⟩ : ∃ b, s[k]? = some b := ⟨_, List.getElem?_eq_getElem hlt⟩
      have hix : ∀ h, (⟨s.toArray⟩ : ByteArray)[k]'h = b := fun h => by
        have : s[k]'hlt = b := (List.getElem?_eq_some_iff.1 hb).2
        exact this
      have hst := hid (signs_take s k b hb)
      have hle : signsR (s.take k) ≤ k := by
        unfold signsR
        have := List.length_filter_le (fun b => b == 43 || b == 35) (s.take k)
        rw [List.length_take] at this
        omega
      obtain ⟨m, hm⟩ : ∃ m : Nat, signsR (s.take k) = m := ⟨_, rfl⟩
      rw [hm] at hle
      by_cases h1 : b = 43
      · have e1 : (((b.toNat : Nat) : Int) == 43) = true := by rw [h1]; rfl
        have hst := hid (show signsR (s.take (k + 1)) = m + 1 by rw [hst.out, hm, h1]; rfl)
        rw [hm]
        clear hm
        go_wp2
        go_roundw
        case rel => exact ⟨k + 1, by rw [hst.out]; go_num, by go_num, hlt, trivial⟩
        case measure => simp [intOf]; omega
      · have e1 : (((b.toNat : Nat) : Int) == 43) = false := by
          rw [beq_eq_false_iff_ne]
          intro h
          exact h1 (UInt8.toNat_inj.1 (show b.toNat = 43 by omega))
        by_cases h2 : b = 35
        · have e2 : (((b.toNat : Nat) : Int) == 35) = true := by rw [h2]; rfl
          have hst := hid (show signsR (s.take (k + 1)) = m + 1 by rw [hst.out, hm, h2]; rfl)
          rw [hm]
          clear hm
          go_wp2
          go_roundw
          case rel => exact ⟨k + 1, by rw [hst.out]; go_num, by go_num, hlt, trivial⟩
          case measure => simp [intOf]; omega
        · have e2 : (((b.toNat : Nat) : Int) == 35) = false := by
            rw [beq_eq_false_iff_ne]
            intro h
            exact h2 (UInt8.toNat_inj.1 (show b.toNat = 35 by omega))
          have hst := hid (show signsR (s.take (k + 1)) = m by rw [hst.out, hm]; simp [h1, h2])
          rw [hm]
          clear hm
          go_wp2
          go_roundw
          case rel => exact ⟨k + 1, by rw [hst.out], by go_num, hlt, trivial⟩
          case measure => simp [intOf]; omega
    · obtain rfl : k = s.length := by omega
      have dk : decide ((s.length : Int) < (s.length : Int)) = false := by simp
      go_wp2
      go_ret
      exact ⟨by simp, rfl⟩

set_option maxRecDepth 100000 in
set_option maxHeartbeats 400000 in
theorem r13_Name (s : List UInt8) (w : World) (hs : s.length ≤ 1000000) :
    Calls Tryz.prog 106 #[.string ⟨s.toArray⟩] w fun e w' => e = .returned (.bool (nameR s)) ∧ Below w.heap.size w w' := by
  have fin : ∀ b : Bool, nameR s = b → Ending.returned (.bool b) = .returned (.bool (nameR s)) := fun b h => by rw [h]
  have HF := hid fin
  clear fin
  have CS := hid (r13_said s w hs)
  have CG := hid fun w => r13_signs s w hs
  have HN := hid (show nameR s = (saidR s && decide (signsR s = 0)) by rw [signs_any]; rfl)
  cases hq : saidR s
  · rw [hq] at CS HN
    clear hq
    go_enter Tryz.func106, Tryz.ntmps106
    go_wp2_with (go_at_call 66; refine CS.out.mono ?_; rintro e w1 ⟨rfl, hb⟩)
    go_ret
    exact ⟨HF.out _ HN.out, hb⟩
  · rw [hq] at CS HN
    clear hq
    have HM := hid (show nameR s = decide (signsR s = 0) by rw [HN.out]; rfl)
    obtain ⟨m, hm⟩ : ∃ m : Nat, signsR s = m := ⟨_, rfl⟩
    rw [hm] at CG HM
    clear hm
    go_enter Tryz.func106, Tryz.ntmps106
    go_wp2_with (first | (go_at_call 66; refine CS.out.mono ?_; rintro e w1 ⟨rfl, hb⟩) | (go_at_call 68; refine (CG.out _).mono ?_; rintro e w2 ⟨rfl, rfl⟩))
    go_ret
    refine ⟨HF.out _ ?_, hb⟩
    rw [HM.out]
    by_cases h : m = 0 <;> simp [h]

/-- May a row be that is an outbox's, or a session's? -/
def rowMay (r : RowV) : Prop := r.kind = 3 ∧ putMay r = true ∧ stageOK r ∨ (∃ c q i, r = ⟨1, c, q, i, [], [], 0, false, 0⟩ ∧ sessMay r = true)
set_option maxRecDepth 100000 in
set_option maxHeartbeats 800000 in
theorem r19_Right_out (r : RowV) (w : World) (hk : r.kind = 3) (hm : putMay r = true) (hs : stageOK r) (hc : r.client.length ≤ 1000000) (ht : r.topic.length ≤ 1000000) :
    Calls Tryz.prog 50 #[.agg r.vals] w fun e w' => e = .returned (.bool true) ∧ Below w.heap.size w w' := by
  obtain ⟨kind, client, seq, id, topic, body, qos, retain, stage⟩ := r
  dsimp only at hk hc ht
  subst hk
  unfold putMay at hm
  simp only [Bool.and_eq_true, decide_eq_true_eq] at hm
  obtain ⟨⟨⟨⟨hbc, hbs⟩, hbn⟩, hbb⟩, hbq⟩ := hm
  have CC := hid fun w => r19_client client w hc
  rw [hbc] at CC
  have CN := hid fun w => r13_Name topic w ht
  rw [hbn] at CN
  have CS := hid (r19_number seq)
  rw [show (decide (0 ≤ seq) && decide (seq ≤ 4611686018427387904)) = true by simp [hbs]] at CS
  have e0 : topic.isEmpty = false := by
    unfold nameR saidR at hbn
    cases topic <;> simp at hbn ⊢
  have hsz : ByteArray.size ⟨body.toArray⟩ = body.length := by simp [ByteArray.size]
  unfold stageOK at hs
  dsimp only at hs
  unfold RowV.vals
  have a1 : decide (0 ≤ qos) = true := decide_eq_true (by omega)
  have a2 : decide (qos ≤ 2) = true := decide_eq_true (by omega)
  have a3 : decide (2000 < (body.length : Int)) = false := decide_eq_false (by omega)
  have a4 : decide (qos < 1) = false := decide_eq_false (by omega)
  have a5 : decide (2 < qos) = false := decide_eq_false (by omega)
  clear hbc hbn hbb hbq hbs hc ht
  rcases hs with ⟨rfl, rfl⟩ | ⟨hi, hst⟩
  case inl =>
    go_enter Tryz.func50, Tryz.ntmps50
    go_wp2_with (first
      | (go_at_call 104; refine (CC.out _).mono ?_; rintro e w1 ⟨rfl, hb⟩; have c2 := cellB hb (j := 2) rfl; have c4 := cellB hb (j := 4) rfl)
      | (go_at_call 106; refine (CN.out _).mono ?_; rintro e w2 ⟨rfl, hb2⟩; replace hb := hb.trans (hb2.mono hb.size); have c5 := cellB hb (j := 5) rfl; have c6 := cellB hb (j := 6) rfl; have c8 := cellB hb (j := 8) rfl; have c3 := cellB hb (j := 3) rfl)
      | (go_at_call 105; refine (CS.out _).mono ?_; rintro e w3 ⟨rfl, rfl⟩))
    go_ret
    exact ⟨rfl, ((Below.refl w.heap.size w).alloc (Nat.le_refl _) _).trans (hb.mono (by simp))⟩
  have i1 : decide (1 ≤ id) = true := decide_eq_true (by omega)
  have i2 : decide (id ≤ 65535) = true := decide_eq_true (by omega)
  clear hi
  rcases hst with rfl | ⟨rfl, rfl⟩
  · skip
    go_enter Tryz.func50, Tryz.ntmps50
    go_wp2_with (first
      | (go_at_call 104; refine (CC.out _).mono ?_; rintro e w1 ⟨rfl, hb⟩; have c2 := cellB hb (j := 2) rfl; have c4 := cellB hb (j := 4) rfl)
      | (go_at_call 106; refine (CN.out _).mono ?_; rintro e w2 ⟨rfl, hb2⟩; replace hb := hb.trans (hb2.mono hb.size); have c5 := cellB hb (j := 5) rfl; have c6 := cellB hb (j := 6) rfl; have c8 := cellB hb (j := 8) rfl; have c3 := cellB hb (j := 3) rfl)
      | (go_at_call 105; refine (CS.out _).mono ?_; rintro e w3 ⟨rfl, rfl⟩))
    go_ret
    exact ⟨rfl, ((Below.refl w.heap.size w).alloc (Nat.le_refl _) _).trans (hb.mono (by simp))⟩
  · skip
    go_enter Tryz.func50, Tryz.ntmps50
    go_wp2_with (first
      | (go_at_call 104; refine (CC.out _).mono ?_; rintro e w1 ⟨rfl, hb⟩; have c2 := cellB hb (j := 2) rfl; have c4 := cellB hb (j := 4) rfl)
      | (go_at_call 106; refine (CN.out _).mono ?_; rintro e w2 ⟨rfl, hb2⟩; replace hb := hb.trans (hb2.mono hb.size); have c5 := cellB hb (j := 5) rfl; have c6 := cellB hb (j := 6) rfl; have c8 := cellB hb (j := 8) rfl; have c3 := cellB hb (j := 3) rfl)
      | (go_at_call 105; refine (CS.out _).mono ?_; rintro e w3 ⟨rfl, rfl⟩))
    go_ret
    exact ⟨rfl, ((Below.refl w.heap.size w).alloc (Nat.le_refl _) _).trans (hb.mono (by simp))⟩
end Go.Proofs.YtoinabapaeebfaaGreatDoor
namespace Go.Proofs.YtoinabapaeebfaaGreatDoor
open Go.RowKit Go.Shelf

def lvlStep (out : List (List UInt8)) (b : UInt8) : List (List UInt8) := if b = 47 then out ++ [[]] else out.dropLast ++ [out.getLast?.getD [] ++ [b]]
def levelsL (s : List UInt8) : List (List UInt8) := s.foldl lvlStep [[]]
def splitR : List UInt8 → List (List UInt8)
  | [] => [[]]
  | b :: l => if b = 47 then [] :: splitR l else (b :: (splitR l).head?.getD []) :: (splitR l).tail
theorem splitR_ne (s : List UInt8) : splitR s ≠ [] := by
  cases s with
  | nil => simp [splitR]
  | cons b l => unfold splitR; split <;> simp
theorem splitK_R : ∀ (s : List UInt8), Lib.splitK [47] 0 (Lib.count s [47]) s = splitR s := by
  intro s
  rw [Lib.count_one]
  induction s with
  | nil => rfl
  | cons b l ih =>
    by_cases hb : b = 47
    · subst hb
      rw [List.count_cons_self]
      unfold Lib.splitK splitR
      have hi : Lib.index ((47 : UInt8) :: l) [47] = 0 := by rw [Lib.index_one]; simp [Lib.indexByte]
      rw [if_pos rfl, hi, if_neg (by decide)]
      simp only [Int.toNat_zero, Nat.zero_add, List.length_cons, List.length_nil, List.take_zero, List.drop_succ_cons, List.drop_zero]
      rw [ih]
    · rw [List.count_cons_of_ne (by simpa using hb)]
      have hR : splitR (b :: l) = (b :: (splitR l).head?.getD []) :: (splitR l).tail := by rw [splitR, if_neg hb]
      rw [hR, ← ih]
      generalize l.count 47 = k
      have hi : Lib.index (b :: l) [47] = if Lib.index l [47] == -1 then -1 else Lib.index l [47] + 1 := by
        rw [Lib.index_one, Lib.index_one, Lib.indexByte]
        simp only [hb, beq_iff_eq, if_false]
      cases k with
      | zero => rfl
      | succ k =>
        unfold Lib.splitK
        rw [hi]
        by_cases h1 : Lib.index l [47] = -1
        · simp [h1]
        · have hge : 0 ≤ Lib.index l [47] := by
            rw [Lib.index_one] at h1 ⊢
            have := Lib.indexByte_ge l 47
            omega
          have e1 : (Lib.index l [47] == -1) = false := by simpa using h1
          have e2 : (Lib.index l [47] + 1 == -1) = false := by simp; omega
          have e3 : (Lib.index l [47] + 1).toNat = (Lib.index l [47]).toNat + 1 := by omega
          simp only [e1, e2, e3, Bool.false_eq_true, if_false, List.head?_cons, Option.getD_some, List.tail_cons, Nat.add_zero, List.take_succ_cons, List.length_cons, List.length_nil]
          rw [show (Lib.index l [47]).toNat + 1 + (0 + 1) = ((Lib.index l [47]).toNat + (0 + 1)) + 1 by omega, List.drop_succ_cons]
theorem fold_R : ∀ (s : List UInt8) (pre : List (List UInt8)) (x : List UInt8), s.foldl lvlStep (pre ++ [x]) = pre ++ (x ++ (splitR s).head?.getD []) :: (splitR s).tail := by
  intro s
  induction s with
  | nil => intro pre x; simp [splitR]
  | cons b l ih =>
    intro pre x
    rw [List.foldl_cons]
    by_cases hb : b = 47
    · rw [show lvlStep (pre ++ [x]) b = (pre ++ [x]) ++ [[]] by unfold lvlStep; rw [if_pos hb], ih, splitR, if_pos hb]
      obtain ⟨y, ys, hy⟩ := List.exists_cons_of_ne_nil (splitR_ne l)
      simp [hy]
    · rw [show lvlStep (pre ++ [x]) b = pre ++ [x ++ [b]] by unfold lvlStep; rw [if_neg hb, List.dropLast_concat, List.getLast?_concat]; rfl, ih, splitR, if_neg hb]
      simp
theorem levelsL_eq (s : List UInt8) : (levelsB s).map (·.data.toList) = levelsL s := by
  unfold levelsB levelsL
  have h := Lib.splitB_data ⟨#[47]⟩ 0 (Lib.countB ⟨s.toArray⟩ ⟨#[47]⟩) ⟨s.toArray⟩
  rw [h]
  show Lib.splitK [47] 0 (Lib.count s [47]) s = _
  rw [splitK_R]
  have := fold_R s [] []
  rw [List.nil_append] at this
  rw [this]
  obtain ⟨y, ys, hy⟩ := List.exists_cons_of_ne_nil (splitR_ne s)
  simp [hy]
theorem levelsL_take (s : List UInt8) (k : Nat) (b : UInt8) (h : s[k]? = some b) : levelsL (s.take (k + 1)) = lvlStep (levelsL (s.take k)) b := by
  unfold levelsL
  rw [List.take_add_one, h, Option.toList_some, List.foldl_append]
  rfl
theorem levelsL_ne (s : List UInt8) : levelsL s ≠ [] := by
  rw [← levelsL_eq]
  have := fold_R s [] []
  intro h
  rw [levelsL_eq] at h
  unfold levelsL at h
  rw [List.nil_append] at this
  rw [this] at h
  simp at h
theorem levelsL_bound (s : List UInt8) : (levelsL s).length ≤ s.length + 1 ∧ ∀ x ∈ levelsL s, x.length ≤ s.length := by
  rw [← levelsL_eq]
  refine ⟨by simpa using levelsB_len s, fun x hx => ?_⟩
  obtain ⟨y, hy, rfl⟩ := List.mem_map.1 hx
  exact levelsB_size s y hy
theorem lvl_L (s : List UInt8) (k : Nat) (hk : k < (levelsB s).length) : (levelsL s)[k]? = some (lvl (levelsB s) k).data.toList := by
  rw [← levelsL_eq, List.getElem?_map]
  unfold lvl
  rw [List.getElem?_eq_getElem hk]
  rfl
end Go.Proofs.YtoinabapaeebfaaGreatDoor
