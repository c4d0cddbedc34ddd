/- Parts of the proof of ScriptCuts: contracts of functions that it reaches, and plain lemmas. No condition of their own. -/
import Derived.Test.YtkghejaimhoboaaGreatDoorPk37
import Derived.Test.YtkghejaimhoboaaGreatDoorPk41
import Derived.Test.YtkghejaimhoboaaGreatDoorPk26
set_option linter.unusedSimpArgs false
set_option linter.unusedVariables false
set_option maxRecDepth 100000
set_option maxHeartbeats 8000000
namespace Go.Proofs.YtkghejaimhoboaaGreatDoor
open Go.RowKit Go.Shelf
section
attribute [local go_sem] Oper.semAt_some
def FlagDo (b : Nat -> Nat) (p : Pk) (h : H3) (g : Value) : Prop := (g = .nilFunc /\ flagN p = 0) \/ ∃ f c, g = fnV f c /\ fnC f /\ ∀ W, ShK b p.kind.toNat W -> Calls Tryz.prog f (#[.agg (p.cells h).toArray] ++ c) W fun e w' => e = .returned (.int .i64 (flagN p)) /\ Below W.heap.size W w'
def WrDo (b : Nat -> Nat) (p : Pk) (h : H3) (m : List UInt8) (g : Value) : Prop := (g = .nilFunc /\ m = []) \/ ∃ f c, g = fnV f c /\ fnC f /\ ∀ W F q, ShK b p.kind.toNat W -> p.In W h -> Wr W F q [] -> (∀ k : Nat, 4 <= k -> k <= 11 -> b k + 3 ∉ F) -> PkN W p h F -> Calls Tryz.prog f (#[.pointer (some ⟨q, 0, none⟩), .agg (p.cells h).toArray] ++ c) W (PutR F q [] m W)
theorem body_nil {p : Pk} (h : rightP p) (hk : p.kind ≠ 3) : p.body = [] := by
 rw [<- h.2]
 unfold aloneP
 rw [if_neg hk]
 repeat' split
 all_goals rfl
theorem flag0 {p : Pk} (h3 : p.kind ≠ 3) (h : p.kind ≠ 6 /\ p.kind ≠ 8 /\ p.kind ≠ 10) : flagN p = 0 := by unfold flagN; rw [if_neg h3, if_neg (by omega)]
theorem flag2 {p : Pk} (h : p.kind = 6 \/ p.kind = 8 \/ p.kind = 10) : flagN p = 2 := by unfold flagN; rw [if_neg (by omega), if_pos h]
theorem pk_flList (fl : Int) (b : Nat) (v : Array Value) (W : World) (hb : Boxed W b 3 (.int .i64 fl)) : Calls Tryz.prog 185 #[.agg v, .pointer (some ⟨b, 0, none⟩)] W fun e w' => e = .returned (.int .i64 fl) /\ Below W.heap.size W w' := by
 have b0 : Below W.heap.size W (W.alloc (.cells v 52)) := (Below.refl _ _).alloc (Nat.le_refl _) _
 have k0 := (boxed_below hb b0).cell
 have B0 := hid b0;clear hb b0;go_enter Tryz.func185, Tryz.ntmps185
 go_wp2_with fail
 go_ret
 exact ⟨rfl, B0.out⟩
theorem want_good {p : Pk} (h : rightP p) (hk : p.kind = 8) : p.wants.length <= 1000 /\ ∀ x ∈ p.wants, x.filter.length <= 65535 /\ 0 <= x.qos /\ x.qos < 256 := by
 have h1 := h.1
 unfold mayP at h1
 rw [if_neg (by omega), if_neg (by omega), if_neg (by omega), if_pos hk, Bool.and_eq_true] at h1
 refine ⟨by have := h1.2; unfold fitL at this; simp at this; omega, fun x hx => ?_⟩
 have h2 := fitL_all h1.2 x hx
 unfold mayWant at h2
 rw [Bool.and_eq_true] at h2
 have a := filterR_len h2.1
 have c := within_iff.1 h2.2
 omega
theorem code_good {p : Pk} (h : rightP p) (hk : p.kind = 9) : p.codes.length <= 1000 /\ ∀ x ∈ p.codes, 0 <= x /\ x < 256 := by
 have h1 := h.1
 unfold mayP at h1
 rw [if_neg (by omega), if_neg (by omega), if_neg (by omega), if_neg (by omega), if_pos hk, Bool.and_eq_true] at h1
 refine ⟨by have := h1.2; unfold fitL at this; simp at this; omega, fun x hx => ?_⟩
 have h2 := fitL_all h1.2 x hx
 unfold mayCode at h2
 rw [Bool.or_eq_true] at h2
 rcases h2 with h2 | h2
 ·have c := within_iff.1 h2
  omega
 ·have := of_decide_eq_true h2
  omega
theorem fil_good {p : Pk} (h : rightP p) (hk : p.kind = 10) : p.filters.length <= 1000 /\ ∀ x ∈ p.filters, x.length <= 65535 := by
 have h1 := h.1
 unfold mayP at h1
 rw [if_neg (by omega), if_neg (by omega), if_neg (by omega), if_neg (by omega), if_neg (by omega), if_pos hk, Bool.and_eq_true] at h1
 refine ⟨by have := h1.2; unfold fitL at this; simp at this; omega, fun x hx => ?_⟩
 have a := filterR_len (fitL_all h1.2 x hx)
 omega
theorem may_id {p : Pk} (h : rightP p) (hk : 4 <= p.kind /\ p.kind <= 11) : 1 <= p.id /\ p.id <= 65535 := by
 have h1 := h.1
 unfold mayP at h1
 rw [if_neg (by omega), if_neg (by omega), if_neg (by omega)] at h1
 have hw : within p.id 1 65535 = true := by
  repeat' split at h1
  all_goals first
   | exact h1
   | (rw [Bool.and_eq_true] at h1; exact h1.1)
   | omega
 exact within_iff.1 hw
theorem pk_fw (b : Nat -> Nat) (p : Pk) (h : H3) (hr : rightP p) (k : Nat) (hk : p.kind = (k : Int)) (hk1 : 1 <= k /\ k <= 14) : ∃ g1 g2 g3 g4 g5 m, shpV b k = .agg #[g1, g2, g3, g4, g5] /\ FlagDo b p h g3 /\ WrDo b p h m g4 /\ bodyP p = m ++ p.body := by
 have hbl := bodyP_len hr
 have hm := hr.1
 have : k = 1 \/ k = 2 \/ k = 3 \/ k = 4 \/ k = 5 \/ k = 6 \/ k = 7 \/ k = 8 \/ k = 9 \/ k = 10 \/ k = 11 \/ k = 12 \/ k = 13 \/ k = 14 := by omega
 rcases this with rfl | rfl | rfl | rfl | rfl | rfl | rfl | rfl | rfl | rfl | rfl | rfl | rfl | rfl
 ·have hc : mayC p = true := by rw [<- hm]; unfold mayP; rw [if_pos (show p.kind = 1 from hk)]
  obtain ⟨a1, a2, a3, a4, a5⟩ := mayC_parts hc
  have hq : 0 <= p.will.qos /\ p.will.qos <= 2 := by
   rcases a3 with ⟨-, e⟩ | ⟨-, -, -, e⟩
   ·rw [e]; exact ⟨by decide, by decide⟩
   ·exact e
  have hcn : connN p < 256 := by
   have := (has_bits p.hasUser p.hasPass p.will.retain p.hasWill p.clean p.will.qos.toNat (by omega)).2.2.2.2.2.2
   exact this
  have hcl := saidN_len a1
  have hx : ∀ x ∈ itemsC p, x.2.length <= 65535 := by
   have t1 : p.will.topic.length <= 65535 := by
    rcases a3 with ⟨-, e⟩ | ⟨-, e, -⟩
    ·rw [e]; decide
    ·have := nameR_len e; omega
   have t2 : p.will.body.length <= 65535 := by
    rcases a3 with ⟨-, e⟩ | ⟨-, -, e, -⟩
    ·rw [e]; decide
    ·omega
   have t3 : p.user.length <= 65535 := by
    rcases a4 with ⟨-, e⟩ | ⟨-, e⟩
    ·have := saidN_len e; omega
    ·rw [e]; decide
   have t4 : p.pass.length <= 65535 := by
    rcases a5 with ⟨-, e⟩ | ⟨-, e⟩
    ·omega
    ·rw [e]; decide
   intro x hx
   simp only [itemsC, List.mem_cons, List.not_mem_nil, or_false] at hx
   rcases hx with rfl | rfl | rfl | rfl <;> assumption
  have hbo := bodyC_eq p hk
  refine ⟨_, _, _, _, _, headC p ++ (itemsC p).flatMap itemB, rfl, .inl ⟨rfl, flag0 (by omega) (by omega)⟩, .inr ⟨201, #[], rfl, enters_of Tryz.func201 (by kernel_rfl) rfl, fun W F q hsh hin hW hoff hN => ?_⟩, by rw [hbo, body_nil hr (by omega), List.append_nil]⟩
  exact pk_writeCon p h hW hcn (by omega) (by omega) (by omega) hx (by rw [hbo, List.length_append] at hbl; simp only [List.length_nil]; omega)
 ·have hc : mayA p = true := by rw [<- hm]; unfold mayP; rw [if_neg (by omega), if_pos (show p.kind = 2 from hk)]
  have hcd : 0 <= p.code /\ p.code <= 5 := by
   unfold mayA at hc
   rw [Bool.and_eq_true] at hc
   exact within_iff.1 hc.1
  refine ⟨_, _, _, _, _, numB 1 (bitN p.present 1) ++ numB 1 p.code.toNat, rfl, .inl ⟨rfl, flag0 (by omega) (by omega)⟩, .inr ⟨126, #[], rfl, enters_of Tryz.func126 (by kernel_rfl) rfl, fun W F q hsh hin hW hoff hN => ?_⟩, by rw [bodyP_2 hk, body_nil hr (by omega), List.append_nil]⟩
  exact pk_writeAck p h hW (by omega) (by decide)
 ·have hc : mayPub p = true := by rw [<- hm]; unfold mayP; rw [if_neg (by omega), if_neg (by omega), if_pos (show p.kind = 3 from hk)]
  unfold mayPub at hc
  rw [Bool.and_eq_true, Bool.and_eq_true, Bool.and_eq_true] at hc
  have hq := within_iff.1 hc.1.2
  have ht := nameR_len hc.1.1.1
  have hi : 0 < p.qos -> 0 <= p.id /\ p.id < 65536 := fun h0 => by
   have h9 := hc.2
   rw [Bool.or_eq_true] at h9
   rcases h9 with h9 | h9
   ·rw [Bool.and_eq_true, Bool.and_eq_true] at h9
    have := of_decide_eq_true h9.1.1
    omega
   ·rw [Bool.and_eq_true] at h9
    have := within_iff.1 h9.2
    omega
  refine ⟨_, _, _, _, _, txtB p.topic ++ (if 0 < p.qos then numB 2 p.id.toNat else []), rfl, .inr ⟨206, #[], rfl, enters_of Tryz.func206 (by kernel_rfl) rfl, fun W _ => pk_pubFlags p h W hk (by omega)⟩, .inr ⟨208, #[], rfl, enters_of Tryz.func208 (by kernel_rfl) rfl, fun W F q hsh hin hW hoff hN => ?_⟩, by rw [bodyP_3 hk, List.append_assoc]⟩
  exact pk_writePub p h hW (by omega) hi (by simp only [List.length_nil]; omega)
 ·skip
  refine ⟨_, _, _, _, _, (numB 2 p.id.toNat ++ []), rfl, .inr ⟨185, #[.pointer (some ⟨b 4, 0, none⟩)], rfl, enters_of Tryz.func185 (by kernel_rfl) rfl, fun W hsh => ?_⟩, .inr ⟨186, #[.pointer (some ⟨b 4 + 3, 0, none⟩)], rfl, enters_of Tryz.func186 (by kernel_rfl) rfl, fun W F q hsh hin hW hoff hN => ?_⟩, ?_⟩
  ·refine (pk_flList 0 (b 4) _ W (ShK.at' hsh hk (by decide) (by decide)).fl).mono fun e w' ⟨he, hb⟩ => ⟨?_, hb⟩
   rw [he, flag0 (by omega) (by omega)]
   rfl
  ·have hid := may_id hr (by omega)
   exact pk_writeList 213 (b 4) [] p h (enters_of Tryz.func213 (by kernel_rfl) rfl) hW (ShK.at' hsh hk (by decide) (by decide)).wr (hoff 4 (by decide) (by decide)) (by omega) (by decide) (fun W1 F1 hs1 hW1 => pk_writeAns _ hW1)
  ·rw [bodyP_i (by omega) (by omega) (by omega) (by omega), body_nil hr (by omega)]
   simp
 ·skip
  refine ⟨_, _, _, _, _, (numB 2 p.id.toNat ++ []), rfl, .inr ⟨185, #[.pointer (some ⟨b 5, 0, none⟩)], rfl, enters_of Tryz.func185 (by kernel_rfl) rfl, fun W hsh => ?_⟩, .inr ⟨186, #[.pointer (some ⟨b 5 + 3, 0, none⟩)], rfl, enters_of Tryz.func186 (by kernel_rfl) rfl, fun W F q hsh hin hW hoff hN => ?_⟩, ?_⟩
  ·refine (pk_flList 0 (b 5) _ W (ShK.at' hsh hk (by decide) (by decide)).fl).mono fun e w' ⟨he, hb⟩ => ⟨?_, hb⟩
   rw [he, flag0 (by omega) (by omega)]
   rfl
  ·have hid := may_id hr (by omega)
   exact pk_writeList 213 (b 5) [] p h (enters_of Tryz.func213 (by kernel_rfl) rfl) hW (ShK.at' hsh hk (by decide) (by decide)).wr (hoff 5 (by decide) (by decide)) (by omega) (by decide) (fun W1 F1 hs1 hW1 => pk_writeAns _ hW1)
  ·rw [bodyP_i (by omega) (by omega) (by omega) (by omega), body_nil hr (by omega)]
   simp
 ·skip
  refine ⟨_, _, _, _, _, (numB 2 p.id.toNat ++ []), rfl, .inr ⟨185, #[.pointer (some ⟨b 6, 0, none⟩)], rfl, enters_of Tryz.func185 (by kernel_rfl) rfl, fun W hsh => ?_⟩, .inr ⟨186, #[.pointer (some ⟨b 6 + 3, 0, none⟩)], rfl, enters_of Tryz.func186 (by kernel_rfl) rfl, fun W F q hsh hin hW hoff hN => ?_⟩, ?_⟩
  ·refine (pk_flList 2 (b 6) _ W (ShK.at' hsh hk (by decide) (by decide)).fl).mono fun e w' ⟨he, hb⟩ => ⟨?_, hb⟩
   rw [he, flag2 (by omega)]
   rfl
  ·have hid := may_id hr (by omega)
   exact pk_writeList 213 (b 6) [] p h (enters_of Tryz.func213 (by kernel_rfl) rfl) hW (ShK.at' hsh hk (by decide) (by decide)).wr (hoff 6 (by decide) (by decide)) (by omega) (by decide) (fun W1 F1 hs1 hW1 => pk_writeAns _ hW1)
  ·rw [bodyP_i (by omega) (by omega) (by omega) (by omega), body_nil hr (by omega)]
   simp
 ·skip
  refine ⟨_, _, _, _, _, (numB 2 p.id.toNat ++ []), rfl, .inr ⟨185, #[.pointer (some ⟨b 7, 0, none⟩)], rfl, enters_of Tryz.func185 (by kernel_rfl) rfl, fun W hsh => ?_⟩, .inr ⟨186, #[.pointer (some ⟨b 7 + 3, 0, none⟩)], rfl, enters_of Tryz.func186 (by kernel_rfl) rfl, fun W F q hsh hin hW hoff hN => ?_⟩, ?_⟩
  ·refine (pk_flList 0 (b 7) _ W (ShK.at' hsh hk (by decide) (by decide)).fl).mono fun e w' ⟨he, hb⟩ => ⟨?_, hb⟩
   rw [he, flag0 (by omega) (by omega)]
   rfl
  ·have hid := may_id hr (by omega)
   exact pk_writeList 213 (b 7) [] p h (enters_of Tryz.func213 (by kernel_rfl) rfl) hW (ShK.at' hsh hk (by decide) (by decide)).wr (hoff 7 (by decide) (by decide)) (by omega) (by decide) (fun W1 F1 hs1 hW1 => pk_writeAns _ hW1)
  ·rw [bodyP_i (by omega) (by omega) (by omega) (by omega), body_nil hr (by omega)]
   simp
 ·skip
  refine ⟨_, _, _, _, _, (numB 2 p.id.toNat ++ (p.wants.flatMap wantB)), rfl, .inr ⟨185, #[.pointer (some ⟨b 8, 0, none⟩)], rfl, enters_of Tryz.func185 (by kernel_rfl) rfl, fun W hsh => ?_⟩, .inr ⟨186, #[.pointer (some ⟨b 8 + 3, 0, none⟩)], rfl, enters_of Tryz.func186 (by kernel_rfl) rfl, fun W F q hsh hin hW hoff hN => ?_⟩, ?_⟩
  ·refine (pk_flList 2 (b 8) _ W (ShK.at' hsh hk (by decide) (by decide)).fl).mono fun e w' ⟨he, hb⟩ => ⟨?_, hb⟩
   rw [he, flag2 (by omega)]
   rfl
  ·have hid := may_id hr (by omega)
   exact pk_writeList 137 (b 8) (p.wants.flatMap wantB) p h (enters_of Tryz.func137 (by kernel_rfl) rfl) hW (ShK.at' hsh hk (by decide) (by decide)).wr (hoff 8 (by decide) (by decide)) (by omega) (by decide) (fun W1 F1 hs1 hW1 => pk_writeWan p h hW1 (hN.step hs1.wrote (fun c hc => .inl hc) hs1.sub).lw (want_good hr hk).1 (want_good hr hk).2 (by have h9 := hbl; rw [bodyP_8 hk] at h9; rw [List.length_append] at h9 ⊢; simp only [List.length_nil]; omega))
  ·rw [bodyP_8 hk, body_nil hr (by omega)]
   simp
 ·skip
  refine ⟨_, _, _, _, _, (numB 2 p.id.toNat ++ (p.codes.flatMap fun c => numB 1 c.toNat)), rfl, .inr ⟨185, #[.pointer (some ⟨b 9, 0, none⟩)], rfl, enters_of Tryz.func185 (by kernel_rfl) rfl, fun W hsh => ?_⟩, .inr ⟨186, #[.pointer (some ⟨b 9 + 3, 0, none⟩)], rfl, enters_of Tryz.func186 (by kernel_rfl) rfl, fun W F q hsh hin hW hoff hN => ?_⟩, ?_⟩
  ·refine (pk_flList 0 (b 9) _ W (ShK.at' hsh hk (by decide) (by decide)).fl).mono fun e w' ⟨he, hb⟩ => ⟨?_, hb⟩
   rw [he, flag0 (by omega) (by omega)]
   rfl
  ·have hid := may_id hr (by omega)
   exact pk_writeList 146 (b 9) (p.codes.flatMap fun c => numB 1 c.toNat) p h (enters_of Tryz.func146 (by kernel_rfl) rfl) hW (ShK.at' hsh hk (by decide) (by decide)).wr (hoff 9 (by decide) (by decide)) (by omega) (by decide) (fun W1 F1 hs1 hW1 => pk_writeCod p h hW1 (hN.step hs1.wrote (fun c hc => .inl hc) hs1.sub).lc (code_good hr hk).1 (code_good hr hk).2 (by have h9 := hbl; rw [bodyP_9 hk] at h9; rw [List.length_append] at h9 ⊢; simp only [List.length_nil]; omega))
  ·rw [bodyP_9 hk, body_nil hr (by omega)]
   simp
 ·skip
  refine ⟨_, _, _, _, _, (numB 2 p.id.toNat ++ (p.filters.flatMap txtB)), rfl, .inr ⟨185, #[.pointer (some ⟨b 10, 0, none⟩)], rfl, enters_of Tryz.func185 (by kernel_rfl) rfl, fun W hsh => ?_⟩, .inr ⟨186, #[.pointer (some ⟨b 10 + 3, 0, none⟩)], rfl, enters_of Tryz.func186 (by kernel_rfl) rfl, fun W F q hsh hin hW hoff hN => ?_⟩, ?_⟩
  ·refine (pk_flList 2 (b 10) _ W (ShK.at' hsh hk (by decide) (by decide)).fl).mono fun e w' ⟨he, hb⟩ => ⟨?_, hb⟩
   rw [he, flag2 (by omega)]
   rfl
  ·have hid := may_id hr (by omega)
   exact pk_writeList 153 (b 10) (p.filters.flatMap txtB) p h (enters_of Tryz.func153 (by kernel_rfl) rfl) hW (ShK.at' hsh hk (by decide) (by decide)).wr (hoff 10 (by decide) (by decide)) (by omega) (by decide) (fun W1 F1 hs1 hW1 => pk_writeFil p h hW1 (hN.step hs1.wrote (fun c hc => .inl hc) hs1.sub).lf (fil_good hr hk).1 (fil_good hr hk).2 (by have h9 := hbl; rw [bodyP_10 hk] at h9; rw [List.length_append] at h9 ⊢; simp only [List.length_nil]; omega))
  ·rw [bodyP_10 hk, body_nil hr (by omega)]
   simp
 ·skip
  refine ⟨_, _, _, _, _, (numB 2 p.id.toNat ++ []), rfl, .inr ⟨185, #[.pointer (some ⟨b 11, 0, none⟩)], rfl, enters_of Tryz.func185 (by kernel_rfl) rfl, fun W hsh => ?_⟩, .inr ⟨186, #[.pointer (some ⟨b 11 + 3, 0, none⟩)], rfl, enters_of Tryz.func186 (by kernel_rfl) rfl, fun W F q hsh hin hW hoff hN => ?_⟩, ?_⟩
  ·refine (pk_flList 0 (b 11) _ W (ShK.at' hsh hk (by decide) (by decide)).fl).mono fun e w' ⟨he, hb⟩ => ⟨?_, hb⟩
   rw [he, flag0 (by omega) (by omega)]
   rfl
  ·have hid := may_id hr (by omega)
   exact pk_writeList 213 (b 11) [] p h (enters_of Tryz.func213 (by kernel_rfl) rfl) hW (ShK.at' hsh hk (by decide) (by decide)).wr (hoff 11 (by decide) (by decide)) (by omega) (by decide) (fun W1 F1 hs1 hW1 => pk_writeAns _ hW1)
  ·rw [bodyP_i (by omega) (by omega) (by omega) (by omega), body_nil hr (by omega)]
   simp
 ·exact ⟨_, _, _, _, _, [], rfl, .inl ⟨rfl, flag0 (by omega) (by omega)⟩, .inl ⟨rfl, rfl⟩, by rw [bodyP_0 (by omega) (by omega) (by omega) (by omega) (by omega) (by omega) (by omega), body_nil hr (by omega)]; rfl⟩
 ·exact ⟨_, _, _, _, _, [], rfl, .inl ⟨rfl, flag0 (by omega) (by omega)⟩, .inl ⟨rfl, rfl⟩, by rw [bodyP_0 (by omega) (by omega) (by omega) (by omega) (by omega) (by omega) (by omega), body_nil hr (by omega)]; rfl⟩
 ·exact ⟨_, _, _, _, _, [], rfl, .inl ⟨rfl, flag0 (by omega) (by omega)⟩, .inl ⟨rfl, rfl⟩, by rw [bodyP_0 (by omega) (by omega) (by omega) (by omega) (by omega) (by omega) (by omega), body_nil hr (by omega)]; rfl⟩
end
section
attribute [local go_sem] Oper.semAt_some
def zSh : Array Value := #[.nilFunc, .nilFunc, .nilFunc, .nilFunc, .nilFunc]
theorem look_sh {w : World} {m : Nat} {b : Nat -> Nat} (h : IM .i64 w m (shapeG b)) (k : Int) (c : Bool) : (Instr.lookup 152 (.map (some m)) (.int .i64 k) c).run Tryz.prog w = .ok (if c then .tuple #[(shapeG b k).getD (.agg zSh), .bool (shapeG b k).isSome] else (shapeG b k).getD (.agg zSh)) w :=
 run_lookup_im 152 45 150 Tryz.underlying152 Tryz.underlying45 h (.agg zSh) (by kernel_rfl) k c
theorem shapeG_agg (b : Nat -> Nat) (k : Int) : ∃ g1 g2 g3 g4 g5, (shapeG b k).getD (.agg zSh) = .agg #[g1, g2, g3, g4, g5] /\ (∀ v ∈ #[g1, g2, g3, g4, g5].toList, v.oneCell' = true) /\ ((shapeG b k).isSome = true -> shapeG b k = some (.agg #[g1, g2, g3, g4, g5])) := by
 unfold shapeG
 split
 ·rename_i h
  have : k = 1 \/ k = 2 \/ k = 3 \/ k = 4 \/ k = 5 \/ k = 6 \/ k = 7 \/ k = 8 \/ k = 9 \/ k = 10 \/ k = 11 \/ k = 12 \/ k = 13 \/ k = 14 := by omega
  rcases this with rfl | rfl | rfl | rfl | rfl | rfl | rfl | rfl | rfl | rfl | rfl | rfl | rfl | rfl
  all_goals exact ⟨_, _, _, _, _, rfl, by simp [fnV, ptrV, Value.oneCell'], fun _ => rfl⟩
 ·exact ⟨_, _, _, _, _, rfl, by simp [Value.oneCell'], by simp⟩
theorem shapeG_none {b : Nat -> Nat} {k : Int} (h : shapeG b k = none) : ¬ (1 <= k /\ k <= 14) := fun h' => by
 unfold shapeG at h
 rw [if_pos h'] at h
 cases h
theorem shapeG_some {b : Nat -> Nat} {k : Int} {v : Value} (h : shapeG b k = some v) : ∃ n : Nat, k = n /\ (1 <= n /\ n <= 14) /\ shpV b n = v := by
 unfold shapeG at h
 split at h
 ·rename_i h'
  exact ⟨k.toNat, by omega, by omega, by cases h; rfl⟩
 ·cases h
structure ShAt (w : World) (pc : Array Value) (p : Pk) (kb : Nat) (g1 g2 g3 g4 g5 : Value) (is : Bool) (W : World) : Prop where
 below : Below w.heap.size w W
 pack : Blk W w.heap.size pc 52
 kind : Blk W kb #[g1, g2, g3, g4, g5] 150
 none : is = false -> ¬ (1 <= p.kind /\ p.kind <= 14)
 some : is = true -> ∃ b, shapeG b p.kind = some (.agg #[g1, g2, g3, g4, g5]) /\ ∀ k, 4 <= k -> k <= 11 -> LiAt b k W
theorem pk_Check (p : Pk) (h : H3) (hs : PkS p) (hfw : (∀ x ∈ p.wants, x.filter.length <= 2000000) /\ ∀ x ∈ p.filters, x.length <= 2000000) : CheckOK p h := fun w hin => by
 obtain ⟨pc, hpc⟩ : ∃ pc, (p.cells h).toArray = pc := ⟨_, rfl⟩
 obtain ⟨W0, hW0⟩ : ∃ W0, w.alloc (.cells pc 52) = W0 := ⟨_, rfl⟩
 have hb0 : Hid (Below w.heap.size w W0) := hid (by rw [<- hW0]; exact (Below.refl _ _).alloc (Nat.le_refl _) _)
 have P0 : Hid (Blk W0 w.heap.size pc 52) := hid (by rw [<- hW0]; exact Blk.new _ _ _)
 have ic : Hid ((Tryz.prog.info? 52).map (·.size) = some pc.size) := hid (by rw [<- hpc]; exact (by kernel_rfl : (Tryz.prog.info? 52).map (·.size) = some 24))
 obtain ⟨kd, hkd⟩ : ∃ k, p.kind = k := ⟨_, rfl⟩
 have kc : Hid (∀ W, Blk W w.heap.size pc 52 -> W.cell? ⟨w.heap.size, 0, none⟩ = some (.int .i64 kd)) := hid fun W hb => by rw [hb.cell, <- hpc, <- hkd]; rfl
 have hkd := hid hkd;rw [hpc]
 have hpc := hid hpc;have HI := hid hin;obtain ⟨Q, hQ⟩ : ∃ Q : Prop, rightP p = Q := ⟨_, rfl⟩
 rw [hQ]
 have hQ := hid hQ;have DO := hid (fun b k hk hk1 => pk_do b p h hs hfw k hk hk1)
 clear hin hs hfw;go_enter Tryz.func51, Tryz.ntmps51
 go_upto_region 1 with fail
 clear hW0;try simp only [PT]
 go_cut [3, 4] from 5 (fun s3 s4 wx => ∃ (kb : Nat) (g1 g2 g3 g4 g5 : Value) (is : Bool), s3 = .pointer (some ⟨kb, 0, none⟩) /\ s4 = .bool is /\ Hid (ShAt w pc p kb g1 g2 g3 g4 g5 is wx))
 case first =>
  have BW5 : Below w.heap.size w W0.drew := hb0.out.drew
  have tW5 : Blk W0.drew w.heap.size pc 52 := P0.out
  refine regionQ [(1000, fun w' => Blk w' w.heap.size pc 52)] (by kernel_rfl) ⟨tW5, trivial⟩ fun KQ hKQ => ?_
  try simp only [PT]
  obtain ⟨W5, hW5⟩ : ∃ W, W0.drew = W := ⟨_, rfl⟩
  rw [hW5] at BW5 tW5 ⊢
  refine tQ [1] ?_;refine loadQ 2 rfl (by kernel_rfl) (by kernel_rfl) rfl rfl 0 rfl (by kernel_rfl) (.int .i64 kd) (fun w' hf => by (have k0 := kc.out _ hf; go_simp <;> with_reducible rfl)) ?_
  simp only [PT];refine stepM [0, 7] (fun j hj => ?_)
  have hj : j = 0 \/ j = 7 := by simpa using hj
  rcases hj with rfl | rfl
  ·refine ⟨⟨_, rfl, by kernel_rfl, fun K hK => ?_⟩⟩
   go_simp;refine (pk_shapes _).mono ?_
   rintro e w6 ⟨m, b, rfl, ⟨hm, hc⟩, hb6⟩
   have ht6 := tW5.below hb6
   obtain ⟨g1, g2, g3, g4, g5, hg, hone, hsome⟩ := shapeG_agg b kd
   have hB6 := BW5.trans (hb6.mono BW5.size)
   refine hK _ _ ⟨⟨fun _ => ht6, trivial⟩, ?_⟩
   clear hK K;try simp only [PT]
   refine atR_more [(1000, fun w' => Blk w' w.heap.size pc 52), (1000, fun w' => IM .i64 w' m (shapeG b))] (by simp) ⟨fun _ => ht6, fun _ => hm, trivial⟩ ?_
   refine lookQ 3 rfl (by kernel_rfl) (by kernel_rfl) rfl rfl rfl 1 rfl (by kernel_rfl) (.tuple #[.agg #[g1, g2, g3, g4, g5], .bool (shapeG b kd).isSome]) (fun w' hf => (look_sh hf kd true).trans (by rw [hg]; rfl)) ?_
   try simp only [PT]
   refine tQ [4, 5, 6] ?_;obtain ⟨is, his⟩ : ∃ b', (shapeG b kd).isSome = b' := ⟨_, rfl⟩
   rw [his]
   refine sQ 7 fun K hK => ?_;simp only [GO];go_simp;refine hK _ _ ⟨⟨fun _ => ht6.alloc _, fun _ => hm.alloc _, trivial⟩, ?_⟩
   clear hK K;try simp only [PT]
   refine sQ 8 fun K hK => ?_;simp only [GO];refine wW 150 5 rfl w6.heap.size zSh #[g1, g2, g3, g4, g5] rfl rfl (Blk.new _ _ _) rfl rfl hone fun w7 hw7 hr7 => ?_
   replace hr7 : Wrote [w6.heap.size] (w6.alloc (.cells zSh 150)) w7 := hr7
   have hs6 := hB6.size
   have hz6 : (w6.alloc (.cells zSh 150)).heap.size = w6.heap.size + 1 := by simp
   have b67 : Below w6.heap.size w6 w7 := ((Below.refl _ _).alloc (Nat.le_refl _) _).trans (hr7.below (by simp) (by simp))
   have hb7 := hB6.trans (b67.mono hB6.size)
   have ht7 := ht6.below b67
   have hm7 := hm.below b67
   refine hK _ _ ⟨⟨fun _ => ht7, fun _ => hm7, trivial⟩, ?_⟩
   clear hK K;try simp only [PT]
   refine tQ [9] ?_;refine dQ (hKQ.out _ _ ?_);clear hKQ KQ;have hR := hid (show ShAt w pc p w6.heap.size g1 g2 g3 g4 g5 is w7 from ⟨hb7, ht7, hw7, fun h => shapeG_none (b := b) (by rw [hkd.out]; rw [<- his] at h; exact Option.isSome_eq_false_iff.1 h |> Option.isNone_iff_eq_none.1), fun h => ⟨b, by rw [hkd.out]; exact hsome (by rw [his, h]), fun k h4 h11 => LiB.below (hc k h4 h11) b67⟩⟩)
   go_wp2
   go_meet
   case rel => exact ⟨_, _, _, _, _, _, _, rfl, rfl, hR⟩
  ·refine ⟨⟨_, rfl, by kernel_rfl, fun K hK => ?_⟩⟩
   go_simp;refine hK _ _ ⟨⟨fun _ => tW5.alloc _, trivial⟩, ?_⟩
   clear hK K;try simp only [PT]
   refine sQ 0 fun K hK => ?_;simp only [GO];go_simp;refine (pk_shapes _).mono ?_
   rintro e w6 ⟨m, b, rfl, ⟨hm, hc⟩, hb6⟩
   have ht6 := (tW5.alloc (.cells zSh 150)).below hb6
   have hk6 := (Blk.new W5 zSh 150).below hb6
   obtain ⟨g1, g2, g3, g4, g5, hg, hone, hsome⟩ := shapeG_agg b kd
   have hs5 := BW5.size
   have hz5 : (W5.alloc (.cells zSh 150)).heap.size = W5.heap.size + 1 := by simp
   have hB6 := (BW5.alloc hs5 (.cells zSh 150)).trans (hb6.mono (by simp; omega))
   have hb6s : W5.heap.size + 1 <= w6.heap.size := by have := hb6.size; simpa using this
   refine hK _ _ ⟨⟨fun _ => ht6, trivial⟩, ?_⟩
   clear hK K;try simp only [PT]
   refine atR_more [(1000, fun w' => Blk w' w.heap.size pc 52), (1000, fun w' => IM .i64 w' m (shapeG b))] (by simp) ⟨fun _ => ht6, fun _ => hm, trivial⟩ ?_
   refine lookQ 3 rfl (by kernel_rfl) (by kernel_rfl) rfl rfl rfl 1 rfl (by kernel_rfl) (.tuple #[.agg #[g1, g2, g3, g4, g5], .bool (shapeG b kd).isSome]) (fun w' hf => (look_sh hf kd true).trans (by rw [hg]; rfl)) ?_
   try simp only [PT]
   refine tQ [4, 5, 6] ?_;obtain ⟨is, his⟩ : ∃ b', (shapeG b kd).isSome = b' := ⟨_, rfl⟩
   rw [his]
   refine sQ 8 fun K hK => ?_;simp only [GO]
   have hne : m ≠ W5.heap.size := fun h => by
    obtain ⟨es, cl, h1, -⟩ := hm
    have h2 : w6.heap[W5.heap.size]? = _ := hk6
    rw [h, h2] at h1
    cases h1
   have hnb : ∀ (T : TypeId) (v : Value) (x : Nat), Boxed w6 x T v -> x ≠ W5.heap.size := fun T v x hx h => by
    have h1 : w6.heap[x]? = _ := hx
    have h2 : w6.heap[W5.heap.size]? = _ := hk6
    rw [h, h2] at h1
    cases h1
   refine wW 150 5 rfl W5.heap.size zSh #[g1, g2, g3, g4, g5] rfl rfl hk6 rfl rfl hone fun w7 hw7 hr7 => ?_
   have hb7 := hB6.trans (hr7.below (by have := hB6.size; omega) (by simp; omega))
   have ht7 := ht6.keepW hr7 (by have := tW5.lt; simp; omega)
   have hm7 := hm.wrote hr7 (by simpa using hne)
   refine hK _ _ ⟨⟨fun _ => ht7, fun _ => hm7, trivial⟩, ?_⟩
   clear hK K;try simp only [PT]
   refine tQ [9] ?_;refine dQ (hKQ.out _ _ ?_);clear hKQ KQ
   have hR := hid (show ShAt w pc p W5.heap.size g1 g2 g3 g4 g5 is w7 from ⟨hb7, ht7, hw7, fun h => shapeG_none (b := b) (by rw [hkd.out]; rw [<- his] at h; exact Option.isSome_eq_false_iff.1 h |> Option.isNone_iff_eq_none.1), fun h => ⟨b, by rw [hkd.out]; exact hsome (by rw [his, h]), fun k h4 h11 => by
    have x := hc k h4 h11
    exact LiB.wrote x hr7 (by simpa using hnb _ _ _ x.fl) (by simpa using hnb _ _ _ x.has) (by simpa using hnb _ _ _ x.may) (by simpa using hnb _ _ _ x.wr) (by simpa using hnb _ _ _ x.rd)⟩⟩)
   go_wp2
   go_meet
   case rel => exact ⟨_, _, _, _, _, _, _, rfl, rfl, hR⟩
 case rest =>
  obtain ⟨kb, g1, g2, g3, g4, g5, is, rfl, rfl, hK⟩ := hcut
  cases is with
  | false =>
   have hno : Hid (¬ Q) := hid (by rw [<- hQ.out]; exact fun h => hK.out.none rfl (rightP_kind h))
   have HB := hid hK.out.below;clear hK;go_wp2_with fail
   go_ret
   exact ⟨2, rfl, iff_of_false (by decide) hno.out, HB.out⟩
  | true =>
   obtain ⟨b, hkg, hL⟩ := hK.out.some rfl
   obtain ⟨n, hn, hn1, hv⟩ := shapeG_some hkg
   obtain ⟨f1, c1, f2, c2, g3', g4', g5', hv', hmh⟩ := DO.out b n hn hn1
   rw [hv] at hv'
   simp only [Value.agg.injEq, Array.mk.injEq, List.cons.injEq, and_true] at hv'
   obtain ⟨rfl, rfl, rfl, rfl, rfl⟩ := hv'
   have hL' : ShK b p.kind.toNat wc := fun h4 h11 => hL _ h4 h11
   have k0 : wc.cell? ⟨kb, 0, none⟩ = some (fnV f1 c1) := hK.out.kind.cell 0
   have e1 := hmh.e1
   have e2 := hmh.e2
   unfold fnC at e1 e2
   have CY := hid (hmh.may wc (HI.out.below hK.out.below) hL')
   rw [hpc.out] at CY
   have tm := hK.out.pack
   have HL := hid hL';have hmh := hid hmh;unfold fnV at k0
   clear hkg hv hL hL' hn hn1;have tok := hid trivial;go_wp2_with (clear tok; refine wLG 52 rfl rfl tm Tryz.underlying52 rfl ?_ ic.out)
   refine CY.out.mono ?_
   rintro e w8 ⟨rfl, hb8⟩
   have HB8 := hid (hK.out.below.trans (hb8.mono hK.out.below.size))
   have ht8 := hK.out.pack.below hb8
   have hk8 := hid (hK.out.kind.below hb8)
   have HL8 : Hid (ShK b p.kind.toNat w8) := hid (fun h4 h11 => LiB.below (HL.out h4 h11) hb8)
   obtain ⟨q, hq⟩ : ∃ q, mayP p = q := ⟨_, rfl⟩
   rw [hq]
   have hq := hid hq;clear hb8 tm k0 CY;cases q with
   | false =>
    have hno : Hid (¬ Q) := hid (by rw [<- hQ.out]; exact fun h => by have := h.1; rw [hq.out] at this; cases this)
    go_wp2_with fail
    go_ret
    exact ⟨2, rfl, iff_of_false (by decide) hno.out, HB8.out⟩
   | true =>
    have k1 : w8.cell? ⟨kb, 1, none⟩ = some (fnV f2 c2) := hk8.out.cell 1
    have CZ := hid (hmh.out.has w8 HL8.out)
    rw [hpc.out] at CZ
    unfold fnV at k1
    clear hK hmh hk8;have tok := hid trivial;go_wp2_with (clear tok; refine wL 52 rfl rfl ht8 Tryz.underlying52 ?_ rfl rfl ic.out)
    refine CZ.out.mono ?_
    rintro e w9 ⟨y, hy, rfl, hyk, hyi, hb9⟩
    have HB9 := hid (HB8.out.trans (hb9.mono HB8.out.size))
    have HT9 := hid (ht8.below hb9)
    have hset : Hid ((y.cells hy).toArray.setIfInBounds 0 (.int .i64 kd) = (({ y with kind := kd } : Pk).cells hy).toArray) := hid rfl
    obtain ⟨yc, hyc⟩ : ∃ yc, (y.cells hy).toArray = yc := ⟨_, rfl⟩
    have sy : Hid (yc.size = 24) := hid (by rw [<- hyc]; rfl)
    have oy : Hid (∀ v ∈ yc.toList, v.oneCell' = true) := hid (by rw [<- hyc]; exact Pk.one y hy)
    rw [hyc] at hset ⊢
    have hyk := hid hyk;have hyi := hid hyi;have hyc := hid hyc;clear hb9 ht8 k1 CZ;go_upto_region 5 with (refine wS 52 24 rfl _ _ _ rfl rfl (Blk.new _ _ _) sy.out (by rfl) oy.out ?_; intro w10 hw10 hr10)
    have b10 : Below w9.heap.size w9 w10 := ((Below.refl _ _).alloc (Nat.le_refl _) _).trans (hr10.below (by simp) (by simp))
    have hz10 : w9.heap.size + 1 <= w10.heap.size := by have := hr10.size; simp at this; omega
    have HB10 := hid (HB9.out.trans (b10.mono HB9.out.size))
    have HT10 := hid (HT9.out.below b10)
    have kk := kc.out _ HT10.out
    clear hr10 b10;try simp only [PT]
    go_upto_region 6 with (refine wpList_store_cell rfl 45 52 _ _ rfl (fun w => by kernel_rfl) w9.heap.size 0 yc (.int .i64 kd) rfl rfl hw10 (by rw [sy.out]; decide) rfl rfl ?_; intro w11 hw11 hr11)
    rw [hset.out] at hw11
    obtain ⟨y', hy'⟩ : ∃ y', ({ y with kind := kd } : Pk) = y' := ⟨_, rfl⟩
    have et : y' = aloneP p := by rw [<- hy', <- hkd.out]; exact hyk.out
    have ei : ∀ W', p.In W' h -> y'.In W' hy := fun W' hh => by
     rw [<- hy']
     exact ⟨(hyi.out W' hh).lw, (hyi.out W' hh).lc, (hyi.out W' hh).lf⟩
    rw [hy'] at hw11
    have HB11 := hid (HB10.out.trans (hr11.below HB10.out.size (by have := HB9.out.size; simp; omega)))
    have ht11 := HT10.out.keepW hr11 (by have := HT9.out.lt; simp; omega)
    have CS := hid (pk_Same y' hy p h w11 (ei _ (HI.out.below HB11.out)) (HI.out.below HB11.out))
    rw [hpc.out, et] at CS
    obtain ⟨yd, hyd⟩ : ∃ yd, ((aloneP p).cells hy).toArray = yd := ⟨_, rfl⟩
    have iy : Hid ((Tryz.prog.info? 52).map (·.size) = some yd.size) := hid (by rw [<- hyd]; exact (by kernel_rfl : (Tryz.prog.info? 52).map (·.size) = some 24))
    rw [et, hyd] at hw11
    rw [hyd] at CS
    clear hr11 hw10 kk ei et hy' hyd;try simp only [PT]
    go_wp2_with (first
     | (refine wL 52 rfl rfl hw11 Tryz.underlying52 ?_ rfl rfl iy.out)
     | (refine wL 52 rfl rfl ht11 Tryz.underlying52 ?_ rfl rfl ic.out))
    refine CS.out.mono ?_
    rintro e w12 ⟨bb, rfl, hb', hb12⟩
    have HB12 := hid (HB11.out.trans (hb12.mono HB11.out.size))
    have hb' := hid hb';clear hb12 ht11 hw11 CS;cases bb with
    | false =>
     have hno : Hid (¬ Q) := hid (by rw [<- hQ.out]; exact fun h => by have := hb'.out.2 h.2; cases this)
     go_wp2_with fail
     go_ret
     exact ⟨2, rfl, iff_of_false (by decide) hno.out, HB12.out⟩
    | true =>
     have hyes : Hid Q := hid (by rw [<- hQ.out]; exact ⟨hq.out, hb'.out.1 rfl⟩)
     go_wp2_with fail
     go_ret
     exact ⟨0, rfl, iff_of_true rfl hyes.out, HB12.out⟩
end
end Go.Proofs.YtkghejaimhoboaaGreatDoor
