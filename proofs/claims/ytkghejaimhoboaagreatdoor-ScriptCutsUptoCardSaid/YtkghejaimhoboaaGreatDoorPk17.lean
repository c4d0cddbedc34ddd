/- Parts of the proof of ScriptCuts: contracts of functions that it reaches, and plain lemmas. No condition of their own. -/
import Derived.Test.YtkghejaimhoboaaGreatDoorPk16
import Derived.Test.YtkghejaimhoboaaGreatDoorPk06
import Derived.Test.YtkghejaimhoboaaGreatDoorPk05
set_option linter.unusedSimpArgs false
set_option linter.unusedVariables false
set_option maxRecDepth 100000
set_option maxHeartbeats 8000000
namespace Go.Proofs.YtkghejaimhoboaaGreatDoor
open Go.RowKit Go.Shelf
section
theorem pub_bits (d r : Bool) (q : Nat) (hq : q < 4) : has (bitN d 8 + bitN r 1 + 2 * q) 8 = d /\ has (bitN d 8 + bitN r 1 + 2 * q) 1 = r /\ (bitN d 8 + bitN r 1 + 2 * q) / 2 % 4 = q /\ bitN d 8 + bitN r 1 + 2 * q < 16 := by
 have h : q = 0 \/ q = 1 \/ q = 2 \/ q = 3 := by omega
 rcases h with rfl | rfl | rfl | rfl <;> cases d <;> cases r <;> decide
theorem rightP_kind {p : Pk} (h : rightP p) : 1 <= p.kind /\ p.kind <= 14 := by
 have hm := h.1
 unfold mayP at hm
 repeat' split at hm
 all_goals first | omega | (simp at hm; omega)
theorem readP_body {p : Pk} (h : rightP p) : readP p.kind (flagN p) (bodyP p) = some (p, []) := by
 have hk := rightP_kind h
 by_cases k1 : p.kind = 1
 ·have := readC_body h k1 []
  rw [List.append_nil] at this
  unfold readP
  rw [if_pos k1, this]
 obtain ⟨hm, ha⟩ := h
 unfold mayP at hm
 unfold aloneP at ha
 unfold readP bodyP flagN
 rw [if_neg k1] at hm ha ⊢
 rw [if_neg k1]
 by_cases k2 : p.kind = 2
 ·rw [if_pos k2] at hm ha ⊢
  rw [if_pos k2]
  unfold mayA at hm
  simp only [Bool.and_eq_true, within_iff] at hm
  have hb : bitN p.present 1 < 256 ^ 1 /\ ¬ 1 < bitN p.present 1 /\ decide (bitN p.present 1 = 1) = p.present := by cases p.present <;> decide
  unfold readA
  rw [rNum_numB 1 _ hb.1, Option.bind_some]
  dsimp only
  rw [if_neg hb.2.1, show numB 1 p.code.toNat = numB 1 p.code.toNat ++ [] by simp, rNum_numB 1 _ (by have := hm.1; omega), Option.bind_some]
  dsimp only
  rw [hb.2.2, Int.toNat_of_nonneg hm.1.1, ha]
 rw [if_neg k2] at hm ha ⊢
 rw [if_neg k2]
 by_cases k3 : p.kind = 3
 ·rw [if_pos k3] at hm ha ⊢
  rw [if_pos k3, if_pos k3]
  unfold mayPub at hm
  simp only [Bool.and_eq_true, Bool.or_eq_true, decide_eq_true_eq, within_iff, Bool.not_eq_true'] at hm
  obtain ⟨⟨⟨m1, m2⟩, m3⟩, m4⟩ := hm
  have hl := nameR_len m1
  obtain ⟨b1, b2, b3, -⟩ := pub_bits p.dup p.retain p.qos.toNat (by omega)
  unfold readPub
  rw [rTxt_txtB _ (by omega), Option.bind_some]
  dsimp only
  rw [b1, b2, b3]
  have e1 : rOpt (decide (0 < p.qos.toNat)) 0 (rNum 2) ((if 0 < p.qos then numB 2 p.id.toNat else []) ++ p.body) = some (p.id.toNat, p.body) := by
   unfold rOpt
   by_cases hq : 0 < p.qos
   ·rw [if_pos hq, decide_eq_true (by omega), if_pos rfl, rNum_numB 2 _ (by omega)]
   ·rw [if_neg hq, decide_eq_false (by omega)]
    rcases m4 with ⟨⟨-, e⟩, -⟩ | ⟨e, -⟩
    ·rw [e]; rfl
    ·omega
  rw [e1, Option.bind_some]
  dsimp only
  rw [Int.toNat_of_nonneg m3.1, Int.toNat_of_nonneg (by omega), ha]
 rw [if_neg k3] at hm ha ⊢
 rw [if_neg k3]
 have hid : within p.id 1 65535 = true -> (∀ r, rNum 2 (numB 2 p.id.toNat ++ r) = some (p.id.toNat, r)) /\ (p.id.toNat : Int) = p.id := fun h => by
  rw [within_iff] at h
  exact ⟨fun r => rNum_numB 2 _ (by omega) r, Int.toNat_of_nonneg (by omega)⟩
 by_cases k8 : p.kind = 8
 ·rw [if_pos k8] at hm ha ⊢
  rw [if_pos k8]
  simp only [Bool.and_eq_true] at hm
  obtain ⟨i1, i2⟩ := hid hm.1
  unfold readL8
  rw [i1, Option.bind_some]
  dsimp only
  rw [rAll_flat rWant wantB (fun x => mayWant x = true) (fun x r hx => rWant_B hx r) (fun x h => txtB_ne x.filter (List.append_eq_nil_iff.1 h).1) _ _ (fitL_all hm.2) (Nat.le_refl _), Option.bind_some, i2, ha]
 rw [if_neg k8] at hm ha ⊢
 rw [if_neg k8]
 by_cases k9 : p.kind = 9
 ·rw [if_pos k9] at hm ha ⊢
  rw [if_pos k9]
  simp only [Bool.and_eq_true] at hm
  obtain ⟨i1, i2⟩ := hid hm.1
  unfold readL9
  rw [i1, Option.bind_some]
  dsimp only
  rw [rAll_flat rCode (fun c => numB 1 c.toNat) (fun x => mayCode x = true) (fun x r hx => rCode_B hx r) (fun x h => numB1_ne _ h) _ _ (fitL_all hm.2) (Nat.le_refl _), Option.bind_some, i2, ha]
 rw [if_neg k9] at hm ha ⊢
 rw [if_neg k9]
 by_cases k10 : p.kind = 10
 ·rw [if_pos k10] at hm ha ⊢
  rw [if_pos k10]
  simp only [Bool.and_eq_true] at hm
  obtain ⟨i1, i2⟩ := hid hm.1
  unfold readL10
  rw [i1, Option.bind_some]
  dsimp only
  rw [rAll_flat rTxt txtB (fun x => filterR x = true) (fun x r hx => rTxt_txtB x (by
   unfold filterR saidR at hx
   simp only [Bool.and_eq_true, decide_eq_true_eq] at hx
   have := hx.2.1.2
   omega) r) (fun x h => txtB_ne _ h) _ _ (fitL_all hm.2) (Nat.le_refl _), Option.bind_some, i2, ha]
 rw [if_neg k10] at hm ha ⊢
 rw [if_neg k10]
 by_cases k4 : 4 <= p.kind /\ p.kind <= 11
 ·rw [if_pos k4] at hm ha ⊢
  rw [if_pos k4]
  obtain ⟨i1, i2⟩ := hid hm
  unfold readI
  have := i1 []
  rw [List.append_nil] at this
  rw [this, Option.bind_some]
  dsimp only
  rw [i2, ha]
 ·rw [if_neg k4] at hm ha ⊢
  rw [if_neg k4, ha]
theorem bodyP_2 {p : Pk} (h : p.kind = 2) : bodyP p = numB 1 (bitN p.present 1) ++ numB 1 p.code.toNat := by
 unfold bodyP; rw [if_neg (by omega), if_pos h]
theorem bodyP_3 {p : Pk} (h : p.kind = 3) : bodyP p = txtB p.topic ++ ((if 0 < p.qos then numB 2 p.id.toNat else []) ++ p.body) := by
 unfold bodyP; rw [if_neg (by omega), if_neg (by omega), if_pos h]
theorem bodyP_8 {p : Pk} (h : p.kind = 8) : bodyP p = numB 2 p.id.toNat ++ p.wants.flatMap wantB := by
 unfold bodyP; rw [if_neg (by omega), if_neg (by omega), if_neg (by omega), if_pos h]
theorem bodyP_9 {p : Pk} (h : p.kind = 9) : bodyP p = numB 2 p.id.toNat ++ p.codes.flatMap (fun c => numB 1 c.toNat) := by
 unfold bodyP; rw [if_neg (by omega), if_neg (by omega), if_neg (by omega), if_neg (by omega), if_pos h]
theorem bodyP_10 {p : Pk} (h : p.kind = 10) : bodyP p = numB 2 p.id.toNat ++ p.filters.flatMap txtB := by
 unfold bodyP; rw [if_neg (by omega), if_neg (by omega), if_neg (by omega), if_neg (by omega), if_neg (by omega), if_pos h]
theorem bodyP_i {p : Pk} (h : 4 <= p.kind /\ p.kind <= 11) (h8 : p.kind ≠ 8) (h9 : p.kind ≠ 9) (h10 : p.kind ≠ 10) : bodyP p = numB 2 p.id.toNat := by
 unfold bodyP; rw [if_neg (by omega), if_neg (by omega), if_neg (by omega), if_neg h8, if_neg h9, if_neg h10, if_pos h]
theorem bodyP_0 {p : Pk} (h1 : p.kind ≠ 1) (h2 : p.kind ≠ 2) (h3 : p.kind ≠ 3) (h8 : p.kind ≠ 8) (h9 : p.kind ≠ 9) (h10 : p.kind ≠ 10) (h : ¬ (4 <= p.kind /\ p.kind <= 11)) : bodyP p = [] := by
 unfold bodyP; rw [if_neg h1, if_neg h2, if_neg h3, if_neg h8, if_neg h9, if_neg h10, if_neg h]
theorem readP_some {k : Int} {f : Nat} {l : List UInt8} {p : Pk} (h : readP k f l = some (p, [])) : l = bodyP p /\ p.kind = k := by
 unfold readP at h
 by_cases k1 : k = 1
 ·rw [if_pos k1] at h
  obtain ⟨a, b⟩ := readC_some h
  rw [List.append_nil] at a
  exact ⟨a, b.trans k1.symm⟩
 rw [if_neg k1] at h
 by_cases k2 : k = 2
 ·rw [if_pos k2] at h
  unfold readA at h
  cases h1 : rNum 1 l with
  | none => rw [h1] at h; cases h
  | some a =>
   rw [h1, Option.bind_some] at h
   split at h
   ·cases h
   ·rename_i ha
    cases h2 : rNum 1 a.2 with
    | none => rw [h2] at h; cases h
    | some c =>
     rw [h2, Option.bind_some] at h
     simp only [Option.some.injEq, Prod.mk.injEq] at h
     obtain ⟨rfl, hc⟩ := h
     have g1 := (rNum_some h1).1
     have g2 := (rNum_some h2).1
     rw [hc, List.append_nil] at g2
     have ea : bitN (decide (a.1 = 1)) 1 = a.1 := by
      rcases (by omega : a.1 = 0 \/ a.1 = 1) with e | e <;> rw [e] <;> rfl
     refine ⟨?_, k2.symm⟩
     rw [bodyP_2 rfl, g1, g2]
     rw [ea]
     simp
 rw [if_neg k2] at h
 by_cases k3 : k = 3
 ·rw [if_pos k3] at h
  unfold readPub at h
  cases h1 : rTxt l with
  | none => rw [h1] at h; cases h
  | some t =>
   rw [h1, Option.bind_some] at h
   cases h2 : rOpt (decide (0 < f / 2 % 4)) 0 (rNum 2) t.2 with
   | none => rw [h2] at h; cases h
   | some i =>
    rw [h2, Option.bind_some] at h
    simp only [Option.some.injEq, Prod.mk.injEq, and_true] at h
    subst h;refine ⟨?_, k3.symm⟩
    have g1 := (rTxt_some h1).1
    rw [bodyP_3 rfl, g1]
    unfold rOpt at h2
    by_cases hq : 0 < f / 2 % 4
    ·rw [decide_eq_true hq, if_pos rfl] at h2
     rw [if_pos (show (0 : Int) < ((f / 2 % 4 : Nat) : Int) by omega), (rNum_some h2).1]
     simp
    ·rw [decide_eq_false hq] at h2
     simp only [Bool.false_eq_true, if_false, Option.some.injEq] at h2
     rw [if_neg (show ¬ (0 : Int) < ((f / 2 % 4 : Nat) : Int) by omega), <- h2]
     simp
 rw [if_neg k3] at h
 by_cases k8 : k = 8
 ·rw [if_pos k8] at h
  unfold readL8 at h
  cases h1 : rNum 2 l with
  | none => rw [h1] at h; cases h
  | some i =>
   rw [h1, Option.bind_some] at h
   cases h2 : rAll rWant i.2.length i.2 with
   | none => rw [h2] at h; cases h
   | some w =>
    rw [h2, Option.bind_some] at h
    simp only [Option.some.injEq, Prod.mk.injEq, and_true] at h
    subst h;refine ⟨?_, k8.symm⟩
    have g2 := rAll_some rWant wantB (fun l x r h => rWant_some h) _ _ _ h2
    rw [bodyP_8 rfl, (rNum_some h1).1, g2]
    simp
 rw [if_neg k8] at h
 by_cases k9 : k = 9
 ·rw [if_pos k9] at h
  unfold readL9 at h
  cases h1 : rNum 2 l with
  | none => rw [h1] at h; cases h
  | some i =>
   rw [h1, Option.bind_some] at h
   cases h2 : rAll rCode i.2.length i.2 with
   | none => rw [h2] at h; cases h
   | some w =>
    rw [h2, Option.bind_some] at h
    simp only [Option.some.injEq, Prod.mk.injEq, and_true] at h
    subst h;refine ⟨?_, k9.symm⟩
    have g2 := rAll_some rCode (fun c => numB 1 c.toNat) (fun l x r h => rCode_some h) _ _ _ h2
    rw [bodyP_9 rfl, (rNum_some h1).1, g2]
    simp
 rw [if_neg k9] at h
 by_cases k10 : k = 10
 ·rw [if_pos k10] at h
  unfold readL10 at h
  cases h1 : rNum 2 l with
  | none => rw [h1] at h; cases h
  | some i =>
   rw [h1, Option.bind_some] at h
   cases h2 : rAll rTxt i.2.length i.2 with
   | none => rw [h2] at h; cases h
   | some w =>
    rw [h2, Option.bind_some] at h
    simp only [Option.some.injEq, Prod.mk.injEq, and_true] at h
    subst h;refine ⟨?_, k10.symm⟩
    have g2 := rAll_some rTxt txtB (fun l x r h => (rTxt_some h).1) _ _ _ h2
    rw [bodyP_10 rfl, (rNum_some h1).1, g2]
    simp
 rw [if_neg k10] at h
 by_cases k4 : 4 <= k /\ k <= 11
 ·rw [if_pos k4] at h
  unfold readI at h
  cases h1 : rNum 2 l with
  | none => rw [h1] at h; cases h
  | some i =>
   rw [h1, Option.bind_some] at h
   simp only [Option.some.injEq, Prod.mk.injEq] at h
   obtain ⟨rfl, hi⟩ := h
   have g1 := (rNum_some h1).1
   rw [hi, List.append_nil] at g1
   refine ⟨?_, rfl⟩
   rw [bodyP_i (p := { zPk k with id := (i.1 : Int) }) k4 k8 k9 k10, g1]
   simp
 ·rw [if_neg k4] at h
  simp only [Option.some.injEq, Prod.mk.injEq] at h
  obtain ⟨rfl, hl⟩ := h
  refine ⟨?_, rfl⟩
  rw [bodyP_0 (p := zPk k) k1 k2 k3 k8 k9 k10 k4, hl]
theorem reads_iff {k : Int} {f : Nat} {l : List UInt8} {p : Pk} : (readP k f l = some (p, []) /\ flagN p = f /\ rightP p) ↔ (rightP p /\ p.kind = k /\ flagN p = f /\ bodyP p = l) := by
 constructor
 ·rintro ⟨h1, h2, h3⟩
  obtain ⟨a, b⟩ := readP_some h1
  exact ⟨h3, b, h2, a.symm⟩
 ·rintro ⟨h1, rfl, rfl, rfl⟩
  exact ⟨readP_body h1, rfl, h1⟩
end
section
structure PkCode where
 raw : Pk -> List UInt8
 parse : List UInt8 -> Option Pk
 iff : ∀ b p, parse b = some p ↔ rightP p /\ raw p = b
 len : ∀ p, rightP p -> (raw p).length < 65536
def mayT (t : Tn) : Prop :=
 if t.kind = 2 then (0 <= t.conn /\ t.conn <= 65535) /\ rightP t.pk else if t.kind = 3 then (0 <= t.conn /\ t.conn <= 65535) /\ t.bytes.length <= 10000
 else if t.kind = 7 then (0 <= t.arm /\ t.arm <= 2) /\ -1 <= t.n /\ t.n < 65535 else if t.kind = 8 then t.picks.length <= 255 /\ ∀ z ∈ t.picks, 0 <= z /\ z <= 255
 else (t.kind = 1 \/ t.kind = 4 \/ t.kind = 5 \/ t.kind = 6) /\ 0 <= t.conn /\ t.conn <= 65535
def zTn (k : Int) : Tn := ⟨k, 0, zPk 0, [], 0, 0, []⟩
def aloneT (t : Tn) : Tn :=
 if t.kind = 2 then { zTn 2 with conn := t.conn, pk := t.pk } else if t.kind = 3 then { zTn 3 with conn := t.conn, bytes := t.bytes }
 else if t.kind = 7 then { zTn 7 with arm := t.arm, n := t.n } else if t.kind = 8 then { zTn 8 with picks := t.picks }
 else if t.kind = 1 \/ t.kind = 4 then { zTn t.kind with conn := t.conn } else zTn t.kind
def rightT (t : Tn) : Prop := mayT t /\ aloneT t = t
section
variable (C : PkCode)
def partB (t : Tn) : List UInt8 :=
 if t.kind = 2 then txtB (C.raw t.pk) else if t.kind = 3 then txtB t.bytes else if t.kind = 7 then numB 1 t.arm.toNat ++ numB 2 (t.n + 1).toNat
 else if t.kind = 8 then numB 1 t.picks.length ++ t.picks.flatMap (fun z => numB 1 z.toNat) else []
def turnB (t : Tn) : List UInt8 := numB 1 t.kind.toNat ++ (numB 2 t.conn.toNat ++ partB C t)
def rMany {α : Type} (take : List UInt8 -> Option (α × List UInt8)) : Nat -> List UInt8 -> Option (List α × List UInt8)
 | 0, l => some ([], l)
 | n + 1, l => (take l).bind fun x => (rMany take n x.2).bind fun r => some (x.1 :: r.1, r.2)
def rPart (u : Bool) (t : Tn) (l : List UInt8) : Option (Tn × List UInt8) :=
 if t.kind = 2 then (rTxt l).bind fun s => (C.parse s.1).bind fun p => some ({ t with pk := p }, s.2)
 else if t.kind = 3 then (rTxt l).bind fun s => some ({ t with bytes := s.1 }, s.2)
 else if t.kind = 7 then (rNum 1 l).bind fun a => (rNum 2 a.2).bind fun n => some ({ t with arm := (a.1 : Int), n := (n.1 : Int) - 1 }, n.2)
 else if t.kind = 8 then (rNum 1 l).bind fun m => (rMany rCode m.1 m.2).bind fun x => some ({ t with picks := x.1 }, x.2)
 else if (t.kind = 1 \/ t.kind = 4 \/ t.kind = 5 \/ t.kind = 6) \/ u = true then some (t, l) else none
def rTurn (u : Bool) (l : List UInt8) : Option (Tn × List UInt8) := (rNum 1 l).bind fun k => (rNum 2 k.2).bind fun c => rPart C u { zTn (k.1 : Int) with conn := (c.1 : Int) } c.2
variable {C} in
theorem rPart_2 {u : Bool} {t : Tn} (h : t.kind = 2) (l : List UInt8) : rPart C u t l = (rTxt l).bind fun s => (C.parse s.1).bind fun p => some ({ t with pk := p }, s.2) := by unfold rPart; rw [if_pos h]
variable {C} in
theorem rPart_3 {u : Bool} {t : Tn} (h : t.kind = 3) (l : List UInt8) : rPart C u t l = (rTxt l).bind fun s => some ({ t with bytes := s.1 }, s.2) := by unfold rPart; rw [if_neg (by omega), if_pos h]
variable {C} in
theorem rPart_7 {u : Bool} {t : Tn} (h : t.kind = 7) (l : List UInt8) : rPart C u t l = (rNum 1 l).bind fun a => (rNum 2 a.2).bind fun n => some ({ t with arm := (a.1 : Int), n := (n.1 : Int) - 1 }, n.2) := by unfold rPart; rw [if_neg (by omega), if_neg (by omega), if_pos h]
variable {C} in
theorem rPart_8 {u : Bool} {t : Tn} (h : t.kind = 8) (l : List UInt8) : rPart C u t l = (rNum 1 l).bind fun m => (rMany rCode m.1 m.2).bind fun x => some ({ t with picks := x.1 }, x.2) := by unfold rPart; rw [if_neg (by omega), if_neg (by omega), if_neg (by omega), if_pos h]
variable {C} in
theorem rPart_b {u : Bool} {t : Tn} (h : t.kind = 1 \/ t.kind = 4 \/ t.kind = 5 \/ t.kind = 6) (l : List UInt8) : rPart C u t l = some (t, l) := by unfold rPart; rw [if_neg (by omega), if_neg (by omega), if_neg (by omega), if_neg (by omega), if_pos (.inl h)]
variable {C} in
theorem partB_2 {t : Tn} (h : t.kind = 2) : partB C t = txtB (C.raw t.pk) := by unfold partB; rw [if_pos h]
variable {C} in
theorem partB_3 {t : Tn} (h : t.kind = 3) : partB C t = txtB t.bytes := by unfold partB; rw [if_neg (by omega), if_pos h]
variable {C} in
theorem partB_7 {t : Tn} (h : t.kind = 7) : partB C t = numB 1 t.arm.toNat ++ numB 2 (t.n + 1).toNat := by unfold partB; rw [if_neg (by omega), if_neg (by omega), if_pos h]
variable {C} in
theorem partB_8 {t : Tn} (h : t.kind = 8) : partB C t = numB 1 t.picks.length ++ t.picks.flatMap (fun z => numB 1 z.toNat) := by unfold partB; rw [if_neg (by omega), if_neg (by omega), if_neg (by omega), if_pos h]
variable {C} in
theorem partB_b {t : Tn} (h : t.kind ≠ 2 /\ t.kind ≠ 3 /\ t.kind ≠ 7 /\ t.kind ≠ 8) : partB C t = [] := by unfold partB; rw [if_neg (by omega), if_neg (by omega), if_neg (by omega), if_neg (by omega)]
theorem rMany_flat {α : Type} (take : List UInt8 -> Option (α × List UInt8)) (enc : α -> List UInt8) (may : α -> Prop) (h : ∀ x r, may x -> take (enc x ++ r) = some (x, r)) : ∀ (xs : List α) (r : List UInt8), (∀ x ∈ xs, may x) -> rMany take xs.length (xs.flatMap enc ++ r) = some (xs, r)
 | [], r, _ => rfl
 | x :: xs, r, hm => by
  rw [List.flatMap_cons, List.append_assoc, List.length_cons, rMany, h x _ (hm x (List.mem_cons_self ..)), Option.bind_some]
  dsimp only
  rw [rMany_flat take enc may h xs r (fun y hy => hm y (List.mem_cons_of_mem _ hy)), Option.bind_some]
theorem rMany_some {α : Type} (take : List UInt8 -> Option (α × List UInt8)) (enc : α -> List UInt8) (h : ∀ l x r, take l = some (x, r) -> l = enc x ++ r) : ∀ (n : Nat) (l : List UInt8) (xs : List α) (r : List UInt8), rMany take n l = some (xs, r) -> l = xs.flatMap enc ++ r /\ xs.length = n
 | 0, l, xs, r, e => by cases e; exact ⟨rfl, rfl⟩
 | n + 1, l, xs, r, e => by
  unfold rMany at e
  cases h1 : take l with
  | none => rw [h1] at e; cases e
  | some x =>
   rw [h1, Option.bind_some] at e
   cases h2 : rMany take n x.2 with
   | none => rw [h2] at e; cases e
   | some y =>
    rw [h2, Option.bind_some] at e
    cases e
    obtain ⟨a, b⟩ := rMany_some take enc h n x.2 y.1 y.2 h2
    rw [h l x.1 x.2 h1, a, List.flatMap_cons, List.append_assoc]
    exact ⟨rfl, by rw [List.length_cons, b]⟩
theorem rCode_byte {z : Int} (h : 0 <= z /\ z <= 255) (r : List UInt8) : rCode (numB 1 z.toNat ++ r) = some (z, r) := by
 unfold rCode
 rw [rNum_numB 1 _ (by omega), Option.bind_some]
 dsimp only
 rw [Int.toNat_of_nonneg (by omega)]
theorem rightT_kind {t : Tn} (h : rightT t) : 1 <= t.kind /\ t.kind <= 8 := by
 have hm := h.1
 unfold mayT at hm
 repeat' split at hm
 all_goals omega
theorem rightT_conn {t : Tn} (h : rightT t) : 0 <= t.conn /\ t.conn <= 65535 := by
 obtain ⟨hm, ha⟩ := h
 unfold mayT at hm
 unfold aloneT at ha
 by_cases k2 : t.kind = 2
 ·rw [if_pos k2] at hm; exact hm.1
 rw [if_neg k2] at hm ha
 by_cases k3 : t.kind = 3
 ·rw [if_pos k3] at hm; exact hm.1
 rw [if_neg k3] at hm ha
 by_cases k7 : t.kind = 7
 ·rw [if_pos k7] at ha
  rw [<- ha]; show (0 : Int) <= 0 /\ (0 : Int) <= 65535; decide
 rw [if_neg k7] at hm ha
 by_cases k8 : t.kind = 8
 ·rw [if_pos k8] at ha
  rw [<- ha]; show (0 : Int) <= 0 /\ (0 : Int) <= 65535; decide
 rw [if_neg k8] at hm ha
 exact hm.2
theorem rTurn_B {u : Bool} {t : Tn} (h : rightT t) (r : List UInt8) : rTurn C u (turnB C t ++ r) = some (t, r) := by
 have hk := rightT_kind h
 have hc := rightT_conn h
 obtain ⟨hm, ha⟩ := h
 unfold rTurn turnB
 rw [List.append_assoc, List.append_assoc, rNum_numB 1 _ (by omega), Option.bind_some]
 dsimp only
 rw [rNum_numB 2 _ (by omega), Option.bind_some]
 dsimp only
 rw [Int.toNat_of_nonneg (by omega), Int.toNat_of_nonneg hc.1]
 unfold mayT at hm
 unfold aloneT at ha
 by_cases k2 : t.kind = 2
 ·rw [if_pos k2] at hm ha
  rw [rPart_2 (show ({ zTn t.kind with conn := t.conn } : Tn).kind = 2 from k2), partB_2 k2, rTxt_txtB _ (C.len _ hm.2), Option.bind_some]
  dsimp only
  rw [(C.iff _ _).2 ⟨hm.2, rfl⟩, Option.bind_some, k2]
  exact congrArg (fun t => some (t, r)) ha
 rw [if_neg k2] at hm ha
 by_cases k3 : t.kind = 3
 ·rw [if_pos k3] at hm ha
  rw [rPart_3 (show ({ zTn t.kind with conn := t.conn } : Tn).kind = 3 from k3), partB_3 k3, rTxt_txtB _ (by omega), Option.bind_some, k3]
  exact congrArg (fun t => some (t, r)) ha
 rw [if_neg k3] at hm ha
 by_cases k7 : t.kind = 7
 ·rw [if_pos k7] at hm ha
  have hcz : t.conn = 0 := by rw [<- ha]; rfl
  rw [rPart_7 (show ({ zTn t.kind with conn := t.conn } : Tn).kind = 7 from k7), partB_7 k7, List.append_assoc, rNum_numB 1 _ (by omega), Option.bind_some]
  dsimp only
  rw [rNum_numB 2 _ (by omega), Option.bind_some]
  dsimp only
  rw [Int.toNat_of_nonneg (by omega), Int.toNat_of_nonneg (by omega), show t.n + 1 - 1 = t.n by omega, k7, hcz]
  exact congrArg (fun t => some (t, r)) ha
 rw [if_neg k7] at hm ha
 by_cases k8 : t.kind = 8
 ·rw [if_pos k8] at hm ha
  have hcz : t.conn = 0 := by rw [<- ha]; rfl
  rw [rPart_8 (show ({ zTn t.kind with conn := t.conn } : Tn).kind = 8 from k8), partB_8 k8, List.append_assoc, rNum_numB 1 _ (by omega), Option.bind_some]
  dsimp only
  rw [rMany_flat rCode (fun z => numB 1 z.toNat) (fun z => 0 <= z /\ z <= 255) (fun z r hz => rCode_byte hz r) _ _ hm.2, Option.bind_some]
  dsimp only
  rw [k8, hcz]
  exact congrArg (fun t => some (t, r)) ha
 rw [if_neg k8] at hm ha
 rw [rPart_b (show ({ zTn t.kind with conn := t.conn } : Tn).kind = 1 \/ _ from hm.1), partB_b ⟨k2, k3, k7, k8⟩, List.nil_append]
 by_cases k1 : t.kind = 1 \/ t.kind = 4
 ·rw [if_pos k1] at ha
  exact congrArg (fun t => some (t, r)) ha
 ·rw [if_neg k1] at ha
  have hcz : t.conn = 0 := by rw [<- ha]; rfl
  rw [hcz]
  exact congrArg (fun t => some (t, r)) ha
theorem rTurn_some {u : Bool} {l r : List UInt8} {t : Tn} (h : rTurn C u l = some (t, r)) : l = turnB C t ++ r := by
 unfold rTurn at h
 cases h1 : rNum 1 l with
 | none => rw [h1] at h; cases h
 | some k =>
 rw [h1, Option.bind_some] at h
 cases h2 : rNum 2 k.2 with
 | none => rw [h2] at h; cases h
 | some c =>
 rw [h2, Option.bind_some] at h
 have g1 := (rNum_some h1).1
 have g2 := (rNum_some h2).1
 rw [g1, g2]
 generalize c.2 = m at h ⊢
 have hkk : ∀ (c : Int), ({ zTn (k.1 : Int) with conn := c } : Tn).kind = (k.1 : Int) := fun _ => rfl
 unfold turnB
 by_cases k2 : (k.1 : Int) = 2
 ·rw [rPart_2 ((hkk _).trans k2)] at h
  cases h3 : rTxt m with
  | none => rw [h3] at h; cases h
  | some s =>
  rw [h3, Option.bind_some] at h
  cases h4 : C.parse s.1 with
  | none => rw [h4] at h; cases h
  | some p =>
  rw [h4, Option.bind_some] at h
  simp only [Option.some.injEq, Prod.mk.injEq] at h
  obtain ⟨hT, rfl⟩ := h
  have e0 : t.kind = (k.1 : Int) := by rw [<- hT]; rfl
  have e1 : t.conn = (c.1 : Int) := by rw [<- hT]
  have e2 : t.pk = p := by rw [<- hT]
  rw [partB_2 (e0.trans k2), e0, e1, e2, ((C.iff _ _).1 h4).2, (rTxt_some h3).1]
  simp [List.append_assoc]
 by_cases k3 : (k.1 : Int) = 3
 ·rw [rPart_3 ((hkk _).trans k3)] at h
  cases h3 : rTxt m with
  | none => rw [h3] at h; cases h
  | some s =>
  rw [h3, Option.bind_some] at h
  simp only [Option.some.injEq, Prod.mk.injEq] at h
  obtain ⟨hT, rfl⟩ := h
  have e0 : t.kind = (k.1 : Int) := by rw [<- hT]; rfl
  have e1 : t.conn = (c.1 : Int) := by rw [<- hT]
  have e2 : t.bytes = s.1 := by rw [<- hT]
  rw [partB_3 (e0.trans k3), e0, e1, e2, (rTxt_some h3).1]
  simp [List.append_assoc]
 by_cases k7 : (k.1 : Int) = 7
 ·rw [rPart_7 ((hkk _).trans k7)] at h
  cases h3 : rNum 1 m with
  | none => rw [h3] at h; cases h
  | some a =>
  rw [h3, Option.bind_some] at h
  cases h4 : rNum 2 a.2 with
  | none => rw [h4] at h; cases h
  | some n =>
  rw [h4, Option.bind_some] at h
  simp only [Option.some.injEq, Prod.mk.injEq] at h
  obtain ⟨hT, rfl⟩ := h
  have e0 : t.kind = (k.1 : Int) := by rw [<- hT]; rfl
  have e1 : t.conn = (c.1 : Int) := by rw [<- hT]
  have e2 : t.arm = (a.1 : Int) /\ t.n = (n.1 : Int) - 1 := by rw [<- hT]; exact ⟨rfl, rfl⟩
  rw [partB_7 (e0.trans k7), e0, e1, e2.1, e2.2, (rNum_some h3).1, (rNum_some h4).1, show ((n.1 : Int) - 1 + 1).toNat = n.1 by omega]
  simp [List.append_assoc]
 by_cases k8 : (k.1 : Int) = 8
 ·rw [rPart_8 ((hkk _).trans k8)] at h
  cases h3 : rNum 1 m with
  | none => rw [h3] at h; cases h
  | some a =>
  rw [h3, Option.bind_some] at h
  cases h4 : rMany rCode a.1 a.2 with
  | none => rw [h4] at h; cases h
  | some x =>
  rw [h4, Option.bind_some] at h
  simp only [Option.some.injEq, Prod.mk.injEq] at h
  obtain ⟨hT, rfl⟩ := h
  have e0 : t.kind = (k.1 : Int) := by rw [<- hT]; rfl
  have e1 : t.conn = (c.1 : Int) := by rw [<- hT]
  obtain ⟨g4, g5⟩ := rMany_some rCode (fun z => numB 1 z.toNat) (fun l x r h => rCode_some h) _ _ _ _ h4
  have e2 : t.picks = x.1 := by rw [<- hT]
  rw [partB_8 (e0.trans k8), e0, e1, e2, (rNum_some h3).1, g5, g4]
  simp [List.append_assoc]
 unfold rPart at h
 rw [if_neg (show ¬ ({ zTn (k.1 : Int) with conn := _ } : Tn).kind = 2 from k2), if_neg (show ¬ ({ zTn (k.1 : Int) with conn := _ } : Tn).kind = 3 from k3), if_neg (show ¬ ({ zTn (k.1 : Int) with conn := _ } : Tn).kind = 7 from k7), if_neg (show ¬ ({ zTn (k.1 : Int) with conn := _ } : Tn).kind = 8 from k8)] at h
 split at h
 ·simp only [Option.some.injEq, Prod.mk.injEq] at h
  obtain ⟨hT, rfl⟩ := h
  have e0 : t.kind = (k.1 : Int) := by rw [<- hT]; rfl
  have e1 : t.conn = (c.1 : Int) := by rw [<- hT]
  rw [partB_b (by rw [e0]; exact ⟨k2, k3, k7, k8⟩), e0, e1]
  simp
 ·cases h
theorem turnB_ne (t : Tn) : turnB C t ≠ [] := fun h => numB1_ne _ (List.append_eq_nil_iff.1 h).1
end
end
section
def cfOK (c : CfV) : Prop := (1 <= c.window /\ c.window <= 100) /\ (1 <= c.room /\ c.room <= 1000) /\ (1 <= c.inbox /\ c.inbox <= 1000) /\ (1 <= c.subs /\ c.subs <= 100) /\ (1 <= c.sessions /\ c.sessions <= 40) /\ (0 <= c.retained /\ c.retained <= 1000) /\ c.secret.length <= 200
def rightS (s : Sc) : Prop := cfOK s.cf /\ (2 <= s.pages /\ s.pages <= 4096) /\ s.ts.length <= 2000 /\ ∀ t ∈ s.ts, rightT t
def headL (c : CfV) (pages : Int) : List Int := [c.window, c.room, c.inbox, c.subs, c.sessions, c.retained, pages]
section
variable (C : PkCode)
def rawS (s : Sc) : List UInt8 := (headL s.cf s.pages).flatMap (fun z => numB 2 z.toNat) ++ (txtB s.cf.secret ++ s.ts.flatMap (turnB C))
def rTwoI (l : List UInt8) : Option (Int × List UInt8) := (rNum 2 l).bind fun c => some ((c.1 : Int), c.2)
def rScript (u : Bool) (l : List UInt8) : Option Sc :=
 (rMany rTwoI 7 l).bind fun h => (rTxt h.2).bind fun s => (rAll (rTurn C u) s.2.length s.2).bind fun ts =>
  match h.1 with
  | [a, b, c, d, e, f, g] => some ⟨⟨a, b, c, d, e, f, s.1⟩, g, ts⟩
  | _ => none
theorem rTwoI_B {z : Int} (h : 0 <= z /\ z <= 65535) (r : List UInt8) : rTwoI (numB 2 z.toNat ++ r) = some (z, r) := by
 unfold rTwoI
 rw [rNum_numB 2 _ (by omega), Option.bind_some]
 dsimp only
 rw [Int.toNat_of_nonneg (by omega)]
theorem rTwoI_some {l r : List UInt8} {c : Int} (h : rTwoI l = some (c, r)) : l = numB 2 c.toNat ++ r := by
 unfold rTwoI at h
 cases h1 : rNum 2 l with
 | none => rw [h1] at h; cases h
 | some t =>
  rw [h1, Option.bind_some] at h
  cases h
  rw [(rNum_some h1).1]
  simp
theorem rScript_B {u : Bool} {s : Sc} (h : rightS s) : rScript C u (rawS C s) = some s := by
 obtain ⟨⟨h1, h2, h3, h4, h5, h6, h7⟩, h8, h9, h10⟩ := h
 have hh : ∀ z ∈ headL s.cf s.pages, 0 <= z /\ z <= 65535 := by
  intro z hz
  simp only [headL, List.mem_cons, List.not_mem_nil, or_false] at hz
  rcases hz with rfl | rfl | rfl | rfl | rfl | rfl | rfl <;> omega
 unfold rScript rawS
 have e7 : (headL s.cf s.pages).length = 7 := rfl
 rw [<- e7, rMany_flat rTwoI (fun z => numB 2 z.toNat) (fun z => 0 <= z /\ z <= 65535) (fun z r hz => rTwoI_B hz r) _ _ hh, Option.bind_some]
 dsimp only
 rw [rTxt_txtB _ (by omega), Option.bind_some]
 dsimp only
 rw [rAll_flat (rTurn C u) (turnB C) rightT (fun t r ht => rTurn_B C ht r) (turnB_ne C) _ _ h10 (Nat.le_refl _), Option.bind_some]
 rfl
end
end
end Go.Proofs.YtkghejaimhoboaaGreatDoor
