/- Parts of the proof of ScriptCuts: contracts of functions that it reaches, and plain lemmas. No condition of their own. -/
import Derived.Test.YtkghejaimhoboaaGreatDoorPk35
import Derived.Test.YtkghejaimhoboaaGreatDoorPk25
set_option linter.unusedSimpArgs false
set_option linter.unusedVariables false
set_option maxRecDepth 100000
set_option maxHeartbeats 8000000
namespace Go.Proofs.YtkghejaimhoboaaGreatDoor
open Go.RowKit Go.Shelf
section
attribute [local go_sem] Oper.semAt_some
def TakeP {α : Type} (tk : List UInt8 -> Option (α × List UInt8)) (enc : α -> Value) (B p : Nat) (l : List UInt8) (w : World) (e : Ending) (w' : World) : Prop :=
 (tk l = none /\ e = .panicked givenP /\ Wrote [p] w w') \/ ∃ x, tk l = some x /\ e = .returned (enc x.1) /\ Rd w' B p x.2 /\ Wrote [p] w w'
structure AllR {α : Type} (f : α -> List Value) (T : TypeId) (size : Nat) (tk : List UInt8 -> Option (α × List UInt8)) (B p : Nat) (l : List UInt8) (w : World) (e : Ending) (w' : World) : Prop where
 wrote : Wrote [p] w w'
 out : (rAll tk l.length l = none /\ e = .panicked givenP) \/ ∃ xs v, rAll tk l.length l = some xs /\ e = .returned v /\ Rd w' B p [] /\ w'.ownsRow w.heap.size T size v xs.length (xs.flatMap f)
structure AllI {α : Type} (f : α -> List Value) (T : TypeId) (size : Nat) (tk : List UInt8 -> Option (α × List UInt8)) (B p : Nat) (l : List UInt8) (w : World) (xs : List α) (r : List UInt8) (v : Value) (W : World) : Prop where
 al : AlS tk l xs r
 rd : Rd W B p r
 own : W.ownsRow (w.heap.size + 1) T size v xs.length (xs.flatMap f)
 wrote : Wrote [p] w W
 box : Blk W w.heap.size #[.pointer (some ⟨p, 0, none⟩)] 161
theorem Tryz.eWa : ElemT Tryz.prog 48 169 (.agg #[.string ⟨#[]⟩, .int .i64 0]) 2 24 := ⟨Tryz.underlying48, by kernel_rfl, rfl⟩
theorem Tryz.eSt : ElemT Tryz.prog 50 9 (.string ⟨#[]⟩) 1 16 := ⟨Tryz.underlying50, by kernel_rfl, rfl⟩
theorem pk_all_int (f : FuncId) (cap : Array Value) (tk : List UInt8 -> Option (Int × List UInt8)) (hs : ∀ l x r, tk l = some (x, r) -> r.length < l.length) {w : World} {B p : Nat} {l : List UInt8} (h : Rd w B p l) (hL : l.length <= 65536) (bl : List Nat) (hbl : ∀ b ∈ bl, b < w.heap.size /\ b ≠ p) (hb : ∀ b ∈ bl, Blk w b #[.pointer (some ⟨p, 0, none⟩)] 161) (hf : fnC f)
  (hc : ∀ W l1, Rd W B p l1 -> (∀ b ∈ bl, Blk W b #[.pointer (some ⟨p, 0, none⟩)] 161) -> Calls Tryz.prog f cap W (TakeP tk iVl B p l1 W)) :
  Calls Tryz.prog 148 #[.agg #[.pointer (some ⟨p, 0, none⟩)], .func (.func f) #[] cap] w (AllR iCl 3 1 tk B p l w) := by
 obtain ⟨W0, hW0⟩ : ∃ W0, w.alloc (.cells #[.pointer (some ⟨p, 0, none⟩)] 161) = W0 := ⟨_, rfl⟩
 have hs0 : W0.heap.size = w.heap.size + 1 := by rw [<- hW0]; simp
 have hpb := h.lt
 have hbw := h.base
 have b0 : Below w.heap.size w W0 := by rw [<- hW0]; exact (Below.refl _ _).alloc (Nat.le_refl _) _
 have HI0 : Hid (AllI iCl 3 1 tk B p l w [] l (.slice none 0 0) W0) := hid (by
  refine ⟨AlS.start l, ?_, World.ownsRow_nil _ _ _ _, ?_, ?_⟩
  ·exact h.below b0
  ·rw [<- hW0]; exact Wrote.alloc _ _ _
  ·rw [<- hW0]; exact Blk.new _ _ _)
 have CL := hid (fun (W : World) (l' : List UInt8) (h : Rd W B p l') => wire_Left h)
 have hc := hid hc;have hs := hid hs;have hbl := hid hbl;have hb := hid hb;unfold fnC at hf
 clear h b0;go_enter Tryz.func148, Tryz.ntmps148
 go_wp2_with fail
 go_loopw [5] (fun v wr => ∃ (xs : List Int) (r : List UInt8) (av : Option Addr) (n cv : Nat), v = .slice av n cv /\ Hid (n = xs.length) /\ Hid (AllI iCl 3 1 tk B p l w xs r (.slice av n cv) wr)) (fun _ wr => rdLen (wr.cell? ⟨p, 0, none⟩))
 case atStart => exact ⟨[], l, none, 0, 0, rfl, hid rfl, HI0⟩
 case round =>
  obtain ⟨xs, r, av, n, cv, rfl, hn, hI⟩ := hrel
  have kq : wr.cell? ⟨w.heap.size, 0, none⟩ = some (.pointer (some ⟨p, 0, none⟩)) := hI.out.box.cell 0
  have CLJ := hid (CL.out wr _ hI.out.rd)
  have hle := hI.out.al.le
  obtain ⟨m, hm⟩ : ∃ m, r.length = m := ⟨_, rfl⟩
  rw [hm] at CLJ hle
  rcases Nat.eq_zero_or_pos m with hz | hpos
  ·subst hz
   have hr0 : r = [] := List.length_eq_zero_iff.1 hm
   subst hr0;have H := hid (show AllR iCl 3 1 tk B p l w (.returned (.slice av n cv)) wr from ⟨hI.out.wrote, .inr ⟨xs, _, hI.out.al.ends, rfl, hI.out.rd, by have := hI.out.own; rw [hn.out] at this ⊢; exact ownsRow_mono this (by omega)⟩⟩)
   clear hm hle;go_wp2_with fail
   refine CLJ.out.mono ?_
   rintro e w1 ⟨rfl, rfl⟩
   go_wp2_with fail
   go_ret
   exact H.out
  ·have hne : Hid (r ≠ []) := hid (fun e => by rw [e] at hm; simp at hm; omega)
   have CC := hid (hc.out wr r hI.out.rd (fun b hb' => (hb.out b hb').keepW hI.out.wrote (by simpa using (hbl.out b hb').2)))
   have hs1 := hI.out.wrote.size
   have hlt := hI.out.box.lt
   have hnm : n + 1 <= 65537 := by rw [hn.out]; omega
   clear hle hm;go_wp2_with fail
   refine CLJ.out.mono ?_
   rintro e w1 ⟨rfl, rfl⟩
   go_wp2_with fail
   refine CC.out.mono ?_
   rintro e w2 (⟨hno, rfl, hw2⟩ | ⟨y, hy, rfl, hR2, hw2⟩)
   ·exact ⟨rfl, hI.out.wrote.trans hw2, .inl ⟨hI.out.al.fails hne.out hno, rfl⟩⟩
   ·have hal := hid (hI.out.al.step hs.out hne.out hy)
    have hlt2 := hid (hs.out _ y.1 y.2 hy)
    have HR2 := hid hR2;have HO := hid hI.out.own;have ho2 : w2.ownsRow (w.heap.size + 1) 3 1 (.slice av n cv) n (xs.flatMap iCl) := by have h8 := hw2.row (by simp; omega) HO.out; rw [<- hn.out] at h8; exact h8
    have HW := hid (hI.out.wrote.trans hw2)
    have HB2 := hid (hI.out.box.keepW hw2 (by simp; omega))
    have hs2 := hw2.size
    have hrd1 := hid hI.out.rd.rdLen;unfold iVl; (obtain ⟨q, hq0⟩ : ∃ q, y.1 = q := ⟨_, rfl⟩); rw [hq0]; replace hq0 := hid hq0
    clear hw2 hR2 hy CC;go_wp2_with (at_builtin; refine append_one rfl _ _ rfl Tryz.eIn (w.heap.size + 1) _ _ _ rfl ho2 (.int .i64 q) rfl rfl (by omega) (by omega) (by omega) ?_; intro v' w4 how4 hg4)
    obtain ⟨a4, c4, rfl⟩ := own_slice how4
    have hv : ∀ y ∈ blk (.slice av n cv), w.heap.size + 1 <= y := fun y hy => (HO.out.lt y (mem_blk.1 hy)).1
    have hw4 : Wrote (blk (.slice av n cv)) w2 w4 := Wrote.of_grown hg4 (fun q hq => mem_blk.2 hq)
    have hR4 := HR2.out.wrote hw4 (fun y hy => by have := hv y hy; omega)
    refine ⟨⟨xs ++ [y.1], y.2, a4, n + 1, c4, rfl, hid (by rw [hn.out]; simp), hid ⟨hal.out, hR4, ?_, HW.out.andNew hw4 (fun y hy => by have := hv y hy; omega), HB2.out.keepW hw4 (fun h => by have := hv _ h; omega)⟩⟩, ?_⟩
    ·rw [List.length_append, List.flatMap_append, <- hn.out]
     simpa [iCl, hq0.out] using how4
    ·rw [hR4.rdLen, hrd1.out]
     exact hlt2.out
theorem pk_all_str (f : FuncId) (cap : Array Value) (tk : List UInt8 -> Option ((List UInt8) × List UInt8)) (hs : ∀ l x r, tk l = some (x, r) -> r.length < l.length) {w : World} {B p : Nat} {l : List UInt8} (h : Rd w B p l) (hL : l.length <= 65536) (bl : List Nat) (hbl : ∀ b ∈ bl, b < w.heap.size /\ b ≠ p) (hb : ∀ b ∈ bl, Blk w b #[.pointer (some ⟨p, 0, none⟩)] 161) (hf : fnC f)
  (hc : ∀ W l1, Rd W B p l1 -> (∀ b ∈ bl, Blk W b #[.pointer (some ⟨p, 0, none⟩)] 161) -> Calls Tryz.prog f cap W (TakeP tk sVl B p l1 W)) :
  Calls Tryz.prog 155 #[.agg #[.pointer (some ⟨p, 0, none⟩)], .func (.func f) cap #[]] w (AllR sCl 9 1 tk B p l w) := by
 obtain ⟨W0, hW0⟩ : ∃ W0, w.alloc (.cells #[.pointer (some ⟨p, 0, none⟩)] 161) = W0 := ⟨_, rfl⟩
 have hs0 : W0.heap.size = w.heap.size + 1 := by rw [<- hW0]; simp
 have hpb := h.lt
 have hbw := h.base
 have b0 : Below w.heap.size w W0 := by rw [<- hW0]; exact (Below.refl _ _).alloc (Nat.le_refl _) _
 have HI0 : Hid (AllI sCl 9 1 tk B p l w [] l (.slice none 0 0) W0) := hid (by
  refine ⟨AlS.start l, ?_, World.ownsRow_nil _ _ _ _, ?_, ?_⟩
  ·exact h.below b0
  ·rw [<- hW0]; exact Wrote.alloc _ _ _
  ·rw [<- hW0]; exact Blk.new _ _ _)
 have CL := hid (fun (W : World) (l' : List UInt8) (h : Rd W B p l') => wire_Left h)
 have hc := hid hc;have hs := hid hs;have hbl := hid hbl;have hb := hid hb;unfold fnC at hf
 clear h b0;go_enter Tryz.func155, Tryz.ntmps155
 go_wp2_with fail
 go_loopw [5] (fun v wr => ∃ (xs : List (List UInt8)) (r : List UInt8) (av : Option Addr) (n cv : Nat), v = .slice av n cv /\ Hid (n = xs.length) /\ Hid (AllI sCl 9 1 tk B p l w xs r (.slice av n cv) wr)) (fun _ wr => rdLen (wr.cell? ⟨p, 0, none⟩))
 case atStart => exact ⟨[], l, none, 0, 0, rfl, hid rfl, HI0⟩
 case round =>
  obtain ⟨xs, r, av, n, cv, rfl, hn, hI⟩ := hrel
  have kq : wr.cell? ⟨w.heap.size, 0, none⟩ = some (.pointer (some ⟨p, 0, none⟩)) := hI.out.box.cell 0
  have CLJ := hid (CL.out wr _ hI.out.rd)
  have hle := hI.out.al.le
  obtain ⟨m, hm⟩ : ∃ m, r.length = m := ⟨_, rfl⟩
  rw [hm] at CLJ hle
  rcases Nat.eq_zero_or_pos m with hz | hpos
  ·subst hz
   have hr0 : r = [] := List.length_eq_zero_iff.1 hm
   subst hr0;have H := hid (show AllR sCl 9 1 tk B p l w (.returned (.slice av n cv)) wr from ⟨hI.out.wrote, .inr ⟨xs, _, hI.out.al.ends, rfl, hI.out.rd, by have := hI.out.own; rw [hn.out] at this ⊢; exact ownsRow_mono this (by omega)⟩⟩)
   clear hm hle;go_wp2_with fail
   refine CLJ.out.mono ?_
   rintro e w1 ⟨rfl, rfl⟩
   go_wp2_with fail
   go_ret
   exact H.out
  ·have hne : Hid (r ≠ []) := hid (fun e => by rw [e] at hm; simp at hm; omega)
   have CC := hid (hc.out wr r hI.out.rd (fun b hb' => (hb.out b hb').keepW hI.out.wrote (by simpa using (hbl.out b hb').2)))
   have hs1 := hI.out.wrote.size
   have hlt := hI.out.box.lt
   have hnm : n + 1 <= 65537 := by rw [hn.out]; omega
   clear hle hm;go_wp2_with fail
   refine CLJ.out.mono ?_
   rintro e w1 ⟨rfl, rfl⟩
   go_wp2_with fail
   refine CC.out.mono ?_
   rintro e w2 (⟨hno, rfl, hw2⟩ | ⟨y, hy, rfl, hR2, hw2⟩)
   ·exact ⟨rfl, hI.out.wrote.trans hw2, .inl ⟨hI.out.al.fails hne.out hno, rfl⟩⟩
   ·have hal := hid (hI.out.al.step hs.out hne.out hy)
    have hlt2 := hid (hs.out _ y.1 y.2 hy)
    have HR2 := hid hR2;have HO := hid hI.out.own;have ho2 : w2.ownsRow (w.heap.size + 1) 9 1 (.slice av n cv) n (xs.flatMap sCl) := by have h8 := hw2.row (by simp; omega) HO.out; rw [<- hn.out] at h8; exact h8
    have HW := hid (hI.out.wrote.trans hw2)
    have HB2 := hid (hI.out.box.keepW hw2 (by simp; omega))
    have hs2 := hw2.size
    have hrd1 := hid hI.out.rd.rdLen;unfold sVl; (obtain ⟨q, hq0⟩ : ∃ q : ByteArray, (⟨y.1.toArray⟩ : ByteArray) = q := ⟨_, rfl⟩); rw [hq0]; replace hq0 := hid hq0
    clear hw2 hR2 hy CC;go_wp2_with (at_builtin; refine append_one rfl _ _ rfl Tryz.eSt (w.heap.size + 1) _ _ _ rfl ho2 (.string q) rfl rfl (by omega) (by omega) (by omega) ?_; intro v' w4 how4 hg4)
    obtain ⟨a4, c4, rfl⟩ := own_slice how4
    have hv : ∀ y ∈ blk (.slice av n cv), w.heap.size + 1 <= y := fun y hy => (HO.out.lt y (mem_blk.1 hy)).1
    have hw4 : Wrote (blk (.slice av n cv)) w2 w4 := Wrote.of_grown hg4 (fun q hq => mem_blk.2 hq)
    have hR4 := HR2.out.wrote hw4 (fun y hy => by have := hv y hy; omega)
    refine ⟨⟨xs ++ [y.1], y.2, a4, n + 1, c4, rfl, hid (by rw [hn.out]; simp), hid ⟨hal.out, hR4, ?_, HW.out.andNew hw4 (fun y hy => by have := hv y hy; omega), HB2.out.keepW hw4 (fun h => by have := hv _ h; omega)⟩⟩, ?_⟩
    ·rw [List.length_append, List.flatMap_append, <- hn.out]
     simpa [sCl, hq0.out] using how4
    ·rw [hR4.rdLen, hrd1.out]
     exact hlt2.out
theorem pk_all_want (f : FuncId) (cap : Array Value) (tk : List UInt8 -> Option (WantV × List UInt8)) (hs : ∀ l x r, tk l = some (x, r) -> r.length < l.length) {w : World} {B p : Nat} {l : List UInt8} (h : Rd w B p l) (hL : l.length <= 65536) (bl : List Nat) (hbl : ∀ b ∈ bl, b < w.heap.size /\ b ≠ p) (hb : ∀ b ∈ bl, Blk w b #[.pointer (some ⟨p, 0, none⟩)] 161) (hf : fnC f)
  (hc : ∀ W l1, Rd W B p l1 -> (∀ b ∈ bl, Blk W b #[.pointer (some ⟨p, 0, none⟩)] 161) -> Calls Tryz.prog f cap W (TakeP tk wVl B p l1 W)) :
  Calls Tryz.prog 139 #[.agg #[.pointer (some ⟨p, 0, none⟩)], .func (.func f) #[] cap] w (AllR WantV.cl 169 2 tk B p l w) := by
 obtain ⟨W0, hW0⟩ : ∃ W0, w.alloc (.cells #[.pointer (some ⟨p, 0, none⟩)] 161) = W0 := ⟨_, rfl⟩
 have hs0 : W0.heap.size = w.heap.size + 1 := by rw [<- hW0]; simp
 have hpb := h.lt
 have hbw := h.base
 have b0 : Below w.heap.size w W0 := by rw [<- hW0]; exact (Below.refl _ _).alloc (Nat.le_refl _) _
 have HI0 : Hid (AllI WantV.cl 169 2 tk B p l w [] l (.slice none 0 0) W0) := hid (by
  refine ⟨AlS.start l, ?_, World.ownsRow_nil _ _ _ _, ?_, ?_⟩
  ·exact h.below b0
  ·rw [<- hW0]; exact Wrote.alloc _ _ _
  ·rw [<- hW0]; exact Blk.new _ _ _)
 have CL := hid (fun (W : World) (l' : List UInt8) (h : Rd W B p l') => wire_Left h)
 have hc := hid hc;have hs := hid hs;have hbl := hid hbl;have hb := hid hb;unfold fnC at hf
 clear h b0;go_enter Tryz.func139, Tryz.ntmps139
 go_wp2_with fail
 go_loopw [5] (fun v wr => ∃ (xs : List WantV) (r : List UInt8) (av : Option Addr) (n cv : Nat), v = .slice av n cv /\ Hid (n = xs.length) /\ Hid (AllI WantV.cl 169 2 tk B p l w xs r (.slice av n cv) wr)) (fun _ wr => rdLen (wr.cell? ⟨p, 0, none⟩))
 case atStart => exact ⟨[], l, none, 0, 0, rfl, hid rfl, HI0⟩
 case round =>
  obtain ⟨xs, r, av, n, cv, rfl, hn, hI⟩ := hrel
  have kq : wr.cell? ⟨w.heap.size, 0, none⟩ = some (.pointer (some ⟨p, 0, none⟩)) := hI.out.box.cell 0
  have CLJ := hid (CL.out wr _ hI.out.rd)
  have hle := hI.out.al.le
  obtain ⟨m, hm⟩ : ∃ m, r.length = m := ⟨_, rfl⟩
  rw [hm] at CLJ hle
  rcases Nat.eq_zero_or_pos m with hz | hpos
  ·subst hz
   have hr0 : r = [] := List.length_eq_zero_iff.1 hm
   subst hr0;have H := hid (show AllR WantV.cl 169 2 tk B p l w (.returned (.slice av n cv)) wr from ⟨hI.out.wrote, .inr ⟨xs, _, hI.out.al.ends, rfl, hI.out.rd, by have := hI.out.own; rw [hn.out] at this ⊢; exact ownsRow_mono this (by omega)⟩⟩)
   clear hm hle;go_wp2_with fail
   refine CLJ.out.mono ?_
   rintro e w1 ⟨rfl, rfl⟩
   go_wp2_with fail
   go_ret
   exact H.out
  ·have hne : Hid (r ≠ []) := hid (fun e => by rw [e] at hm; simp at hm; omega)
   have CC := hid (hc.out wr r hI.out.rd (fun b hb' => (hb.out b hb').keepW hI.out.wrote (by simpa using (hbl.out b hb').2)))
   have hs1 := hI.out.wrote.size
   have hlt := hI.out.box.lt
   have hnm : n + 1 <= 65537 := by rw [hn.out]; omega
   clear hle hm;go_wp2_with fail
   refine CLJ.out.mono ?_
   rintro e w1 ⟨rfl, rfl⟩
   go_wp2_with fail
   refine CC.out.mono ?_
   rintro e w2 (⟨hno, rfl, hw2⟩ | ⟨y, hy, rfl, hR2, hw2⟩)
   ·exact ⟨rfl, hI.out.wrote.trans hw2, .inl ⟨hI.out.al.fails hne.out hno, rfl⟩⟩
   ·have hal := hid (hI.out.al.step hs.out hne.out hy)
    have hlt2 := hid (hs.out _ y.1 y.2 hy)
    have HR2 := hid hR2;have HO := hid hI.out.own;have ho2 : w2.ownsRow (w.heap.size + 1) 169 2 (.slice av n cv) n (xs.flatMap WantV.cl) := by have h8 := hw2.row (by simp; omega) HO.out; rw [<- hn.out] at h8; exact h8
    have HW := hid (hI.out.wrote.trans hw2)
    have HB2 := hid (hI.out.box.keepW hw2 (by simp; omega))
    have hs2 := hw2.size
    have hrd1 := hid hI.out.rd.rdLen;(obtain ⟨qc, hqc⟩ : ∃ qc, y.1.cl = qc := ⟨_, rfl⟩); have hqs := hid (show qc.length = 2 by rw [<- hqc]; rfl); have hqo := hid (show ∀ u ∈ qc, u.oneCell' = true by rw [<- hqc]; simp [WantV.cl, Value.oneCell']); rw [show wVl y.1 = .agg y.1.cl.toArray from rfl, hqc]; replace hqc := hid hqc
    clear hw2 hR2 hy CC;go_wp2_with (first | (refine wpList_plain rfl fun _ hK => wp_slice_one _ rfl Tryz.eWa (by decide) (by decide) (.agg qc.toArray) rfl (by rw [show (Value.agg qc.toArray).cells = qc.toArray from rfl, List.size_toArray, hqs.out]) (hK _ _ ?_)) | (at_builtin; refine append_grp rfl _ _ rfl Tryz.eWa (by decide) (w.heap.size + 1) (.slice av n cv) n (xs.flatMap WantV.cl) rfl (ho2.alloc _) w2.heap.size qc 169 rfl (Blk.new w2 qc.toArray 169) hqs.out hqo.out (by omega) (by omega) (by simp; omega) ?_; intro v' w4 how4 hg4 hn4))
    obtain ⟨a4, c4, rfl⟩ := own_slice how4
    have hv : ∀ y ∈ blk (.slice av n cv), w.heap.size + 1 <= y := fun y hy => (HO.out.lt y (mem_blk.1 hy)).1
    have hw4 : Wrote (blk (.slice av n cv)) w2 w4 := (Wrote.alloc _ w2 (.cells qc.toArray 169)).trans (Wrote.of_grown hg4 (fun q hq => mem_blk.2 hq))
    have hR4 := HR2.out.wrote hw4 (fun y hy => by have := hv y hy; omega)
    refine ⟨⟨xs ++ [y.1], y.2, a4, n + 1, c4, rfl, hid (by rw [hn.out]; simp), hid ⟨hal.out, hR4, ?_, HW.out.andNew hw4 (fun y hy => by have := hv y hy; omega), HB2.out.keepW hw4 (fun h => by have := hv _ h; omega)⟩⟩, ?_⟩
    ·rw [List.length_append, List.flatMap_append, <- hn.out]
     simpa [hqc.out] using how4
    ·rw [hR4.rdLen, hrd1.out]
     exact hlt2.out
end
section
attribute [local go_sem] Oper.semAt_some
structure PRd (k : Int) (f B p : Nat) (l : List UInt8) (w : World) (e : Ending) (w' : World) : Prop where
 wrote : Wrote [p] w w'
 out : (readP k f l = none /\ e = .panicked givenP) \/ ∃ (y : Pk) (h : H3) (r : List UInt8), readP k f l = some ({ y with kind := k }, r) /\ e = .returned (.agg (y.cells h).toArray) /\ Rd w' B p r /\ ∀ M, (∀ b ∈ M, b < w.heap.size) -> PkN w' y h M
theorem PkN.zero (w : World) (y : Pk) (h : y.wants = [] /\ y.codes = [] /\ y.filters = []) (M : List Nat) : PkN w y h3Z M := by
 obtain ⟨a, b, c⟩ := h
 refine ⟨?_, ?_, ?_⟩
 ·rw [a]; exact LsN.nil w M
 ·rw [b]; exact LsN.nil w M
 ·rw [c]; exact LsN.nil w M
theorem readP_0 {k : Int} (hk : 12 <= k) (f : Nat) (l : List UInt8) : readP k f l = some (zPk k, l) := by
 unfold readP
 rw [if_neg (by omega), if_neg (by omega), if_neg (by omega), if_neg (by omega), if_neg (by omega), if_neg (by omega), if_neg (by omega)]
theorem pk_readEmp (k : Int) (hk : 12 <= k) (f : Nat) {w : World} {B p : Nat} {l : List UInt8} (h : Rd w B p l) : Calls Tryz.prog 122 #[.agg #[.pointer (some ⟨p, 0, none⟩)], .int .i64 f] w (PRd k f B p l w) := by
 obtain ⟨W0, hW0⟩ : ∃ W0, w.alloc (.cells #[.pointer (some ⟨p, 0, none⟩)] 161) = W0 := ⟨_, rfl⟩
 have s0 : W0.heap.size = w.heap.size + 1 := by rw [<- hW0]; simp
 obtain ⟨W1, hW1⟩ : ∃ W1, W0.alloc (.cells #[.int .i64 0, .bool false, .bool false, .int .i64 0, .string ⟨#[]⟩, .string ⟨#[]⟩, .int .i64 0, .string ⟨#[]⟩, .bool false, .int .i64 0, .bool false, .string ⟨#[]⟩, .string ⟨#[]⟩, .int .i64 0, .bool false, .bool false, .bool false, .string ⟨#[]⟩, .string ⟨#[]⟩, .bool false, .int .i64 0, .slice none 0 0, .slice none 0 0, .slice none 0 0] 52) = W1 := ⟨_, rfl⟩
 have s1 : W1.heap.size = w.heap.size + 2 := by rw [<- hW1]; simp; omega
 have b0 : Below w.heap.size w W0 := by rw [<- hW0]; exact (Below.refl _ _).alloc (Nat.le_refl _) _
 have b1 : Below w.heap.size w W1 := by rw [<- hW1]; exact b0.alloc b0.size _
 have x1 : Blk W1 w.heap.size #[.pointer (some ⟨p, 0, none⟩)] 161 := by rw [<- hW1, <- hW0]; exact (Blk.new _ _ _).alloc _
 have z1 : Blk W1 (w.heap.size + 1) zPc 52 := by
  have := Blk.new W0 zPc 52
  rw [show W0.alloc (.cells zPc 52) = W1 from hW1, s0] at this
  exact this
 have R1 := h.below b1
 have K1 : Wrote [p] w W1 := Wrote.of_below b1
 have hpb := h.lt
 have hbs := h.base
 clear h b0;have hone := hid (Pk.one (zPk 0) h3Z)
 replace b1 := hid b1;replace x1 := hid x1;replace R1 := hid R1;replace K1 := hid K1;go_enter Tryz.func122, Tryz.ntmps122
 go_wp2_with (refine wS 52 24 rfl (w.heap.size + 1) _ ((zPk 0).cells h3Z).toArray rfl rfl z1 rfl rfl hone.out ?_; intro w2 hw2 hr2)
 refine bodyPost_ret (results_cell1 Tryz.results122 rfl (run_loadVar_blk hw2 52 Tryz.underlying52 rfl (by kernel_rfl))) rfl ?_
 have b2 := b1.out.trans (hr2.below b1.out.size (by simp))
 exact ⟨Wrote.of_below b2, .inr ⟨zPk 0, h3Z, l, readP_0 hk f l, rfl, R1.out.wrote hr2 (by simp; omega), fun M _ => PkN.zero _ _ ⟨rfl, rfl, rfl⟩ M⟩⟩
theorem readP_2 (f : Nat) (l : List UInt8) : readP 2 f l = readA l := by
 unfold readP
 rw [if_neg (by decide), if_pos rfl]
theorem pk_readAck (f : Nat) {w : World} {B p : Nat} {l : List UInt8} (h : Rd w B p l) : Calls Tryz.prog 128 #[.agg #[.pointer (some ⟨p, 0, none⟩)], .int .i64 f] w (PRd 2 f B p l w) := by
 have CM := hid pk_must;obtain ⟨W0, hW0⟩ : ∃ W0, w.alloc (.cells #[.pointer (some ⟨p, 0, none⟩)] 161) = W0 := ⟨_, rfl⟩
 have s0 : W0.heap.size = w.heap.size + 1 := by rw [<- hW0]; simp
 obtain ⟨W1, hW1⟩ : ∃ W1, W0.alloc (.cells #[.int .i64 0, .bool false, .bool false, .int .i64 0, .string ⟨#[]⟩, .string ⟨#[]⟩, .int .i64 0, .string ⟨#[]⟩, .bool false, .int .i64 0, .bool false, .string ⟨#[]⟩, .string ⟨#[]⟩, .int .i64 0, .bool false, .bool false, .bool false, .string ⟨#[]⟩, .string ⟨#[]⟩, .bool false, .int .i64 0, .slice none 0 0, .slice none 0 0, .slice none 0 0] 52) = W1 := ⟨_, rfl⟩
 have s1 : W1.heap.size = w.heap.size + 2 := by rw [<- hW1]; simp; omega
 have b0 : Below w.heap.size w W0 := by rw [<- hW0]; exact (Below.refl _ _).alloc (Nat.le_refl _) _
 have b1 : Below w.heap.size w W1 := by rw [<- hW1]; exact b0.alloc b0.size _
 have x1 : Blk W1 w.heap.size #[.pointer (some ⟨p, 0, none⟩)] 161 := by rw [<- hW1, <- hW0]; exact (Blk.new _ _ _).alloc _
 have z1 : Blk W1 (w.heap.size + 1) zPc 52 := by
  have := Blk.new W0 zPc 52
  rw [show W0.alloc (.cells zPc 52) = W1 from hW1, s0] at this
  exact this
 have R1 := h.below b1
 have K1 : Wrote [p] w W1 := Wrote.of_below b1
 have hpb := h.lt
 have hbs := h.base
 clear h b0;have CX := hid (pk_number R1 1 (by decide) (by decide))
 have Z1 := hid z1;have B1 := hid b1;replace K1 := hid K1;clear z1 R1 b1;go_enter Tryz.func128, Tryz.ntmps128
 go_wp2_with (refine wL 161 rfl rfl x1 Tryz.underlying161 ?_)
 refine CX.out.mono ?_
 rintro e w2 (⟨hno, rfl, hw2⟩ | ⟨⟨m, r⟩, hx, rfl, R2, hw2⟩)
 ·refine ⟨rfl, K1.out.trans hw2, .inl ⟨?_, rfl⟩⟩
  rw [readP_2]
  unfold readA
  rw [hno]
  rfl
 ·dsimp only at R2 ⊢
  have x2 := x1.keepW hw2 (by simp; omega)
  have Z2 := hid (Z1.out.keepW hw2 (by simp; omega))
  have K2 := hid (K1.out.trans hw2)
  have hs2 := hid hw2.size;have CY := hid (pk_number R2 1 (by decide) (by decide))
  have hx := hid hx;clear hw2 R2 x1;obtain ⟨z, hz⟩ : ∃ z : Int, (m : Int) = z := ⟨_, rfl⟩
  rw [hz]
  by_cases h1 : z <= 1
  ·have d : decide (z <= 1) = true := decide_eq_true h1
   replace hz := hid hz
   go_wp2_with (first
    | (go_at_call 95; refine (CM.out _ _).mono ?_; rintro e w9 ⟨rfl, rfl⟩)
    | (refine wL 161 rfl rfl x2 Tryz.underlying161 ?_))
   refine CY.out.mono ?_
   rintro e w3 (⟨hno, rfl, hw3⟩ | ⟨⟨c, r2⟩, hy, rfl, R3, hw3⟩)
   ·refine ⟨rfl, K2.out.trans hw3, .inl ⟨?_, rfl⟩⟩
    rw [readP_2]
    unfold readA
    rw [hx.out, Option.bind_some]
    dsimp only
    rw [if_neg (by have := hz.out; omega), hno]
    rfl
   ·dsimp only at R3 ⊢
    have z3 := Z2.out.keepW hw3 (by simp; omega)
    have K3 := hid (K2.out.trans hw3)
    have hone := hid (Pk.one { zPk 0 with present := z == 1, code := (c : Int) } h3Z)
    have R3 := hid R3;have hy := hid hy;have hs3 := hid (show w.heap.size + 2 <= w3.heap.size by have := hw3.size; have := hs2.out; omega)
    clear hw3 x2;go_wp2_with (refine wS 52 24 rfl (w.heap.size + 1) _ (({ zPk 0 with present := z == 1, code := (c : Int) } : Pk).cells h3Z).toArray rfl rfl z3 rfl rfl hone.out ?_; intro w4 hw4 hr4)
    refine bodyPost_ret (results_cell1 Tryz.results128 rfl (run_loadVar_blk hw4 52 Tryz.underlying52 rfl (by kernel_rfl))) rfl ?_
    refine ⟨K3.out.andNew hr4 (by simp), .inr ⟨{ zPk 0 with present := z == 1, code := (c : Int) }, h3Z, r2, ?_, rfl, R3.out.wrote hr4 (by simp; omega), fun M _ => PkN.zero _ _ ⟨rfl, rfl, rfl⟩ M⟩⟩
    rw [readP_2]
    unfold readA
    rw [hx.out, Option.bind_some]
    dsimp only
    rw [if_neg (by have := hz.out; omega), hy.out, Option.bind_some]
    have e1 : decide (m = 1) = (z == 1) := by
     have := hz.out
     by_cases hm : m = 1
     ·subst hm; subst this; rfl
     ·rw [decide_eq_false hm]; symm; rw [beq_eq_false_iff_ne]; omega
    rw [e1]
    rfl
  ·have d : decide (z <= 1) = false := decide_eq_false h1
   replace hz := hid hz;go_wp2_with (go_at_call 95; refine (CM.out _ _).mono ?_; rintro e w9 ⟨rfl, rfl⟩)
   refine ⟨rfl, K2.out, .inl ⟨?_, rfl⟩⟩
   rw [readP_2]
   unfold readA
   rw [hx.out, Option.bind_some]
   dsimp only
   rw [if_pos (by have := hz.out; omega)]
end
section
attribute [local go_sem] Oper.semAt_some
theorem and_8 : ∀ f : Nat, f < 16 -> decide (0 < bits .and .i64 (f : Int) 8) = has f 8 := by decide
theorem and_1 : ∀ f : Nat, f < 16 -> decide (0 < bits .and .i64 (f : Int) 1) = has f 1 := by decide
theorem and_3 : ∀ f : Nat, f < 16 -> bits .and .i64 ((f : Int) / 2) 3 = ((f / 2 % 4 : Nat) : Int) := by decide
theorem readP_3 (f : Nat) (l : List UInt8) : readP 3 f l = readPub f l := by
 unfold readP
 rw [if_neg (by decide), if_neg (by decide), if_pos rfl]
theorem pk_readPub (f : Nat) (hf : f < 16) {w : World} {B p : Nat} {l : List UInt8} (h : Rd w B p l) : Calls Tryz.prog 209 #[.agg #[.pointer (some ⟨p, 0, none⟩)], .int .i64 f] w (PRd 3 f B p l w) := by
 obtain ⟨W0, hW0⟩ : ∃ W0, w.alloc (.cells #[.pointer (some ⟨p, 0, none⟩)] 161) = W0 := ⟨_, rfl⟩
 have s0 : W0.heap.size = w.heap.size + 1 := by rw [<- hW0]; simp
 obtain ⟨W1, hW1⟩ : ∃ W1, W0.alloc (.cells #[.int .i64 0, .bool false, .bool false, .int .i64 0, .string ⟨#[]⟩, .string ⟨#[]⟩, .int .i64 0, .string ⟨#[]⟩, .bool false, .int .i64 0, .bool false, .string ⟨#[]⟩, .string ⟨#[]⟩, .int .i64 0, .bool false, .bool false, .bool false, .string ⟨#[]⟩, .string ⟨#[]⟩, .bool false, .int .i64 0, .slice none 0 0, .slice none 0 0, .slice none 0 0] 52) = W1 := ⟨_, rfl⟩
 have s1 : W1.heap.size = w.heap.size + 2 := by rw [<- hW1]; simp; omega
 have b0 : Below w.heap.size w W0 := by rw [<- hW0]; exact (Below.refl _ _).alloc (Nat.le_refl _) _
 have b1 : Below w.heap.size w W1 := by rw [<- hW1]; exact b0.alloc b0.size _
 have x1 : Blk W1 w.heap.size #[.pointer (some ⟨p, 0, none⟩)] 161 := by rw [<- hW1, <- hW0]; exact (Blk.new _ _ _).alloc _
 have z1 : Blk W1 (w.heap.size + 1) zPc 52 := by
  have := Blk.new W0 zPc 52
  rw [show W0.alloc (.cells zPc 52) = W1 from hW1, s0] at this
  exact this
 have R1 := h.below b1
 have K1 : Wrote [p] w W1 := Wrote.of_below b1
 have hpb := h.lt
 have hbs := h.base
 clear h b0;have CX := hid (pk_text R1)
 have Z1 := hid z1;have B1 := hid b1;replace K1 := hid K1;clear z1 R1 b1;have e8 := and_8 f hf
 have e1 := and_1 f hf
 have e3 := and_3 f hf
 obtain ⟨z, hz⟩ : ∃ z : Int, (f : Int) = z := ⟨_, rfl⟩
 obtain ⟨d, hd⟩ : ∃ b, has f 8 = b := ⟨_, rfl⟩
 obtain ⟨rt, hrt⟩ : ∃ b, has f 1 = b := ⟨_, rfl⟩
 obtain ⟨q, hq⟩ : ∃ q : Int, ((f / 2 % 4 : Nat) : Int) = q := ⟨_, rfl⟩
 have hz0 : 0 <= z := by omega
 have hz1 : z < 16 := by omega
 have hq0 : 0 <= q := by omega
 have hq4 : q < 4 := by omega
 rw [hz] at e8 e1 e3 ⊢
 rw [hd] at e8
 rw [hrt] at e1
 rw [hq] at e3
 replace hz := hid hz
 have hrp : Hid (readP 3 f l = (rTxt l).bind fun t => (rOpt (decide (0 < q)) 0 (rNum 2) t.2).bind fun i => some ({ zPk 3 with dup := d, retain := rt, qos := q, topic := t.1, id := (i.1 : Int), body := i.2 }, [])) := hid (by
  rw [readP_3]
  unfold readPub
  rw [hd, hrt, hq, show decide (0 < f / 2 % 4) = decide (0 < q) from decide_eq_decide.2 (by omega)])
 clear hd hrt hq hf;go_enter Tryz.func209, Tryz.ntmps209
 go_wp2_with (refine wL 161 rfl rfl x1 Tryz.underlying161 ?_)
 refine CX.out.mono ?_
 rintro e w2 (⟨hno, rfl, hw2⟩ | ⟨⟨s, r⟩, hx, rfl, R2, hw2⟩)
 ·refine ⟨rfl, K1.out.trans hw2, .inl ⟨?_, rfl⟩⟩
  rw [hrp.out, hno]
  rfl
 ·dsimp only at R2 ⊢
  rw [hx, Option.bind_some] at hrp
  dsimp only at hrp
  have X2 := hid (x1.keepW hw2 (by simp; omega))
  have Z2 := hid (Z1.out.keepW hw2 (by simp; omega))
  have K2 := hid (K1.out.trans hw2)
  have R2 := hid R2;have hs2 : w.heap.size + 2 <= w2.heap.size := by have := hw2.size; omega
  clear hw2 hx x1;obtain ⟨p1, hp1⟩ : ∃ p1 : Pk, ({ zPk 0 with dup := d, retain := rt, qos := q, topic := s } : Pk) = p1 := ⟨_, rfl⟩
  have hone : Hid (∀ v ∈ (p1.cells h3Z).toArray.toList, v.oneCell' = true) := hid (Pk.one p1 h3Z)
  obtain ⟨pc, hpc⟩ : ∃ pc, (p1.cells h3Z).toArray = pc := ⟨_, rfl⟩
  have hps : Hid (pc.size = 24) := hid (by rw [<- hpc]; rfl)
  have hpl : (.agg #[.int .i64 0, .bool d, .bool rt, .int .i64 q, .string ⟨s.toArray⟩, .string ⟨#[]⟩, .int .i64 0, .string ⟨#[]⟩, .bool false, .int .i64 0, .bool false, .string ⟨#[]⟩, .string ⟨#[]⟩, .int .i64 0, .bool false, .bool false, .bool false, .string ⟨#[]⟩, .string ⟨#[]⟩, .bool false, .int .i64 0, .slice none 0 0, .slice none 0 0, .slice none 0 0] : Value) = .agg pc := by rw [<- hpc, <- hp1]; rfl
  rw [hpc] at hone
  replace hpl := hid hpl;replace hpc := hid hpc;go_upto_region 2 with (rw [hpl.out]; refine wS 52 24 rfl _ _ pc rfl rfl (Blk.new _ _ _) hps.out (by rfl) hone.out ?_; intro w3 hw3 hr3)
  have b3 : Below w2.heap.size w2 w3 := ((Below.refl _ _).alloc (Nat.le_refl _) _).trans (hr3.below (by simp) (by simp))
  have hs3 : w2.heap.size + 1 <= w3.heap.size := by have := hr3.size; simp at this; omega
  have R3 := hid (R2.out.below b3)
  have X3 := hid (X2.out.below b3)
  have Z3 := hid (Z2.out.below b3)
  have K3 := hid (K2.out.trans (Wrote.of_below b3))
  have Y3 := hid hw3;have kq : w3.cell? ⟨w2.heap.size, 3, none⟩ = some (.int .i64 q) := by rw [hw3.cell, <- hpc.out, <- hp1]; rfl
  replace hp1 := hid hp1;clear hr3 b3 hw3 X2 Z2 K2 R2;try simp only [PT]
  by_cases hq : 0 < q
  ·have dq : decide (0 < q) = true := decide_eq_true hq
   rw [dq] at hrp
   have CN := hid (pk_number R3.out 2 (by decide) (by decide))
   have x3 := X3.out
   go_wp2_with (refine wL 161 rfl rfl x3 Tryz.underlying161 ?_)
   refine CN.out.mono ?_
   rintro e w4 (⟨hno, rfl, hw4⟩ | ⟨⟨i, r2⟩, hx, rfl, R4, hw4⟩)
   ·refine ⟨rfl, K3.out.trans hw4, .inl ⟨?_, rfl⟩⟩
    rw [hrp.out]
    unfold rOpt
    rw [if_pos rfl, hno]
    rfl
   ·dsimp only at R4 ⊢
    have y4 := Y3.out.keepW hw4 (by simp; omega)
    have X4 := hid (X3.out.keepW hw4 (by simp; omega))
    have Z4 := hid (Z3.out.keepW hw4 (by simp; omega))
    have K4 := hid (K3.out.trans hw4)
    have R4 := hid R4;have hx := hid hx;have hs4 : w2.heap.size + 1 <= w4.heap.size := by have := hw4.size; omega
    clear hw4 x3 kq;obtain ⟨ii, hii⟩ : ∃ z : Int, (i : Int) = z := ⟨_, rfl⟩
    rw [hii]
    replace hii := hid hii;go_upto_region 4 with (refine wpList_store_cell rfl 2 52 _ _ rfl (fun w => by kernel_rfl) w2.heap.size 6 pc (.int .i64 ii) rfl rfl y4 (by rw [hps.out]; decide) rfl rfl ?_; intro w5 hw5 hr5)
    obtain ⟨pd, hpd⟩ : ∃ pd, pc.setIfInBounds 6 (.int .i64 ii) = pd := ⟨_, rfl⟩
    rw [hpd] at hw5
    have hpdz : Hid (pd.size = 24) := hid (by rw [<- hpd, Array.size_setIfInBounds, hps.out])
    have hpd := hid hpd;have Y5 := hid hw5;have X5 := hid (X4.out.keepW hr5 (by simp; omega))
    have Z5 := hid (Z4.out.keepW hr5 (by simp; omega))
    have R5 := hid (R4.out.wrote hr5 (by simp; omega))
    have K5 := hid (K4.out.andNew hr5 (by simp; omega))
    have hs5 : w2.heap.size + 1 <= w5.heap.size := by have := hr5.size; omega
    clear hr5 y4 hw5;try simp only [PT]
    have CR := hid (pk_rest R5.out)
    go_wp2_with (refine wL 161 rfl rfl X5.out Tryz.underlying161 ?_)
    refine CR.out.mono ?_
    rintro e w7 ⟨rfl, R7, hw7⟩
    have y7 := Y5.out.keepW hw7 (by simp; omega)
    have Z7 := hid (Z5.out.keepW hw7 (by simp; omega))
    have K7 := hid (K5.out.trans hw7)
    have hs7 : w2.heap.size + 1 <= w7.heap.size := by have := hw7.size; omega
    have R7 := hid R7;obtain ⟨yd, hyd⟩ : ∃ yd : Pk, ({ p1 with id := ii, body := r2 } : Pk) = yd := ⟨_, rfl⟩
    obtain ⟨yc, hyc⟩ : ∃ yc, (yd.cells h3Z).toArray = yc := ⟨_, rfl⟩
    have hset : Hid (pd.setIfInBounds 5 (.string ⟨r2.toArray⟩) = yc) := hid (by rw [<- hyc, <- hyd, <- hpd.out, <- hpc.out]; rfl)
    have hyo : Hid (∀ v ∈ yc.toList, v.oneCell' = true) := hid (by rw [<- hyc]; exact Pk.one yd h3Z)
    have hyz : Hid (yc.size = 24) := hid (by rw [<- hyc]; rfl)
    have iy : Hid ((Tryz.prog.info? 52).map (·.size) = some yc.size) := hid (by rw [hyz.out]; exact (by kernel_rfl : (Tryz.prog.info? 52).map (·.size) = some 24))
    have hyd := hid hyd;have hyc := hid hyc;clear hw7;go_upto_region 5 with (refine wpList_store_cell rfl 9 52 _ _ rfl (fun w => by kernel_rfl) w2.heap.size 5 pd (.string ⟨r2.toArray⟩) rfl rfl y7 (by rw [hpdz.out]; decide) rfl rfl ?_; intro w8 hw8 hr8)
    rw [hset.out] at hw8
    have Z8 := hid (Z7.out.keepW hr8 (by simp; omega))
    have R8 := hid (R7.out.wrote hr8 (by simp; omega))
    have K8 := hid (K7.out.andNew hr8 (by simp; omega))
    have hs8 := hr8.size
    clear hr8 y7;try simp only [PT]
    go_wp2_with (first
     | (refine wL 52 rfl rfl hw8 Tryz.underlying52 ?_ rfl rfl iy.out)
     | (refine wS 52 24 rfl (w.heap.size + 1) _ yc rfl rfl Z8.out hyz.out rfl hyo.out ?_; intro w9 hw9 hr9))
    refine bodyPost_ret (results_cell1 Tryz.results209 rfl (run_loadVar_blk hw9 52 Tryz.underlying52 rfl iy.out)) rfl ?_
    refine ⟨K8.out.andNew hr9 (by simp), .inr ⟨yd, h3Z, [], ?_, by rw [hyc.out], R8.out.wrote hr9 (by simp; omega), fun M _ => PkN.zero _ _ ⟨by rw [<- hyd.out, <- hp1.out]; rfl, by rw [<- hyd.out, <- hp1.out]; rfl, by rw [<- hyd.out, <- hp1.out]; rfl⟩ M⟩⟩
    rw [hrp.out, show rOpt true 0 (rNum 2) r = some (i, r2) from hx.out, Option.bind_some, hii.out]
    rw [<- hyd.out, <- hp1.out]
    rfl
  ·have dq : decide (0 < q) = false := decide_eq_false hq
   rw [dq] at hrp
   go_upto_region 4 with fail
   try simp only [PT]
   have CR := hid (pk_rest R3.out)
   go_wp2_with (refine wL 161 rfl rfl X3.out Tryz.underlying161 ?_)
   refine CR.out.mono ?_
   rintro e w7 ⟨rfl, R7, hw7⟩
   have y7 := Y3.out.keepW hw7 (by simp; omega)
   have Z7 := hid (Z3.out.keepW hw7 (by simp; omega))
   have K7 := hid (K3.out.trans hw7)
   have hs7 : w2.heap.size + 1 <= w7.heap.size := by have := hw7.size; omega
   have R7 := hid R7;obtain ⟨yd, hyd⟩ : ∃ yd : Pk, ({ p1 with id := 0, body := r } : Pk) = yd := ⟨_, rfl⟩
   obtain ⟨yc, hyc⟩ : ∃ yc, (yd.cells h3Z).toArray = yc := ⟨_, rfl⟩
   have hset : Hid (pc.setIfInBounds 5 (.string ⟨r.toArray⟩) = yc) := hid (by rw [<- hyc, <- hyd, <- hpc.out, <- hp1.out]; rfl)
   have hyo : Hid (∀ v ∈ yc.toList, v.oneCell' = true) := hid (by rw [<- hyc]; exact Pk.one yd h3Z)
   have hyz : Hid (yc.size = 24) := hid (by rw [<- hyc]; rfl)
   have iy : Hid ((Tryz.prog.info? 52).map (·.size) = some yc.size) := hid (by rw [hyz.out]; exact (by kernel_rfl : (Tryz.prog.info? 52).map (·.size) = some 24))
   have hyd := hid hyd;have hyc := hid hyc;clear hw7;go_upto_region 5 with (refine wpList_store_cell rfl 9 52 _ _ rfl (fun w => by kernel_rfl) w2.heap.size 5 pc (.string ⟨r.toArray⟩) rfl rfl y7 (by rw [hps.out]; decide) rfl rfl ?_; intro w8 hw8 hr8)
   rw [hset.out] at hw8
   have Z8 := hid (Z7.out.keepW hr8 (by simp; omega))
   have R8 := hid (R7.out.wrote hr8 (by simp; omega))
   have K8 := hid (K7.out.andNew hr8 (by simp; omega))
   have hs8 := hr8.size
   clear hr8 y7;try simp only [PT]
   go_wp2_with (first
    | (refine wL 52 rfl rfl hw8 Tryz.underlying52 ?_ rfl rfl iy.out)
    | (refine wS 52 24 rfl (w.heap.size + 1) _ yc rfl rfl Z8.out hyz.out rfl hyo.out ?_; intro w9 hw9 hr9))
   refine bodyPost_ret (results_cell1 Tryz.results209 rfl (run_loadVar_blk hw9 52 Tryz.underlying52 rfl iy.out)) rfl ?_
   refine ⟨K8.out.andNew hr9 (by simp), .inr ⟨yd, h3Z, [], ?_, by rw [hyc.out], R8.out.wrote hr9 (by simp; omega), fun M _ => PkN.zero _ _ ⟨by rw [<- hyd.out, <- hp1.out]; rfl, by rw [<- hyd.out, <- hp1.out]; rfl, by rw [<- hyd.out, <- hp1.out]; rfl⟩ M⟩⟩
   rw [hrp.out, show rOpt false 0 (rNum 2) r = some (0, r) from rfl, Option.bind_some]
   rw [<- hyd.out, <- hp1.out]
   rfl
end
end Go.Proofs.YtkghejaimhoboaaGreatDoor
