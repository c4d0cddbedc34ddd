/- Parts of the proof of ScriptSame: contracts of functions that it reaches, and plain lemmas. No condition of their own. -/
import Derived.Test.YtkghejaimhoboaaGreatDoorPk28
set_option linter.unusedSimpArgs false
set_option linter.unusedVariables false
set_option maxRecDepth 100000
set_option maxHeartbeats 8000000
namespace Go.Proofs.YtkghejaimhoboaaGreatDoor
open Go.RowKit Go.Shelf
section
attribute [local go_sem] Oper.semAt_some
theorem rAll_rMany {α : Type} (take : List UInt8 -> Option (α × List UInt8)) (ht : ∀ l x r, take l = some (x, r) -> r.length < l.length) : ∀ (j n : Nat) (l r : List UInt8) (xs : List α), rMany take j l = some (xs, r) -> l.length <= n ->
  (r = [] -> rAll take n l = some xs) /\ (r ≠ [] -> take r = none -> rAll take n l = none)
 | 0, n, l, r, xs, h, hn => by
  cases h
  cases n with
  | zero =>
   have : l = [] := List.length_eq_zero_iff.1 (by omega)
   subst this;exact ⟨fun _ => rfl, fun h => absurd rfl h⟩
  | succ n =>
   unfold rAll
   refine ⟨fun h => by rw [if_pos h], fun h hr => by rw [if_neg h, hr]; rfl⟩
 | j + 1, n, l, r, xs, h, hn => by
  unfold rMany at h
  cases h1 : take l with
  | none => rw [h1] at h; cases h
  | some x =>
   rw [h1, Option.bind_some] at h
   cases h2 : rMany take j x.2 with
   | none => rw [h2] at h; cases h
   | some y =>
    rw [h2, Option.bind_some] at h
    cases h
    have hlt := ht l x.1 x.2 h1
    have hne : l ≠ [] := by rintro rfl; simp at hlt
    cases n with
    | zero => have := List.length_pos_iff.2 hne; omega
    | succ n =>
     obtain ⟨a, b⟩ := rAll_rMany take ht j n x.2 y.2 y.1 h2 (by omega)
     unfold rAll
     rw [if_neg hne, h1, Option.bind_some]
     exact ⟨fun hr => by (rw [a hr]; rfl), fun hr hn => by (rw [b hr hn]; rfl)⟩
theorem rNum_len {k : Nat} {l r : List UInt8} {n : Nat} (h : rNum k l = some (n, r)) : l.length = k + r.length := by
 unfold rNum at h
 split at h
 ·cases h
 ·cases h
  rw [List.length_drop]; omega
theorem rTurn_len {C : PkCode} {u : Bool} {l r : List UInt8} {t : Tn} (h : rTurn C u l = some (t, r)) : r.length + 3 <= l.length := by
 rw [rTurn_some C h, List.length_append]
 unfold turnB
 rw [List.length_append, List.length_append, numB_len, numB_len]
 omega
structure LsN {α : Type} (f : α -> List Value) (size : Nat) (w : World) (h : Hd) (xs : List α) (M : List Nat) : Prop where
 at' : LsAt f size w h.a h.n h.c xs
 off : xs ≠ [] -> ∀ y, h.a = some y -> y.block ∉ M
theorem LsN.step {α : Type} {f : α -> List Value} {size : Nat} {w w' : World} {h : Hd} {xs : List α} {M M' M2 : List Nat} (k : LsN f size w h xs M) (hw : Wrote M' w w') (h1 : ∀ b ∈ M', b ∈ M \/ w.heap.size <= b) (h2 : ∀ b ∈ M2, b ∈ M \/ w.heap.size <= b) : LsN f size w' h xs M2 := by
 have hlt : xs ≠ [] -> ∀ y, h.a = some y -> y.block < w.heap.size := fun hne y hy => by
  obtain ⟨x, hx⟩ : ∃ x, xs[0]? = some x := ⟨_, List.getElem?_eq_getElem (List.length_pos_iff.2 hne)⟩
  obtain ⟨g, off, e, hg, -⟩ := k.at'.at' 0 x hx
  rw [hy] at e
  cases e
  exact hg
 refine ⟨⟨k.at'.len, k.at'.le, k.at'.max, fun i x hx => ?_⟩, fun hne y hy hb => ?_⟩
 ·have hne : xs ≠ [] := by rintro rfl; simp at hx
  obtain ⟨g, off, ha, hg, hr⟩ := k.at'.at' i x hx
  refine ⟨g, off, ha, Nat.lt_of_lt_of_le hg hw.size, fun j v hj => ?_⟩
  rw [<- hr j v hj]
  unfold World.cell?
  rw [hw.block g hg (fun hm => ?_)]
  rcases h1 g hm with h3 | h3
  ·exact k.off hne _ ha h3
  ·omega
 ·rcases h2 _ hb with h3 | h3
  ·exact k.off hne _ hy h3
  ·have := hlt hne y hy; omega
theorem LsN.nil {α : Type} {f : α -> List Value} {size : Nat} (w : World) (M : List Nat) : LsN f size w hdZ ([] : List α) M := ⟨LsAt.nil w, fun h => absurd rfl h⟩
structure InN (w : World) (x : TnC) (M : List Nat) : Prop where
 lw : LsN WantV.cl 2 w x.h.w x.t.pk.wants M
 lc : LsN iCl 1 w x.h.c x.t.pk.codes M
 lf : LsN sCl 1 w x.h.f x.t.pk.filters M
 lp : LsN iCl 1 w x.hp x.t.picks M
theorem InN.inn {w : World} {x : TnC} {M : List Nat} (h : InN w x M) : x.t.In w x.h x.hp := ⟨⟨h.lw.at', h.lc.at', h.lf.at'⟩, h.lp.at'⟩
theorem InN.step {w w' : World} {x : TnC} {M M' M2 : List Nat} (k : InN w x M) (hw : Wrote M' w w') (h1 : ∀ b ∈ M', b ∈ M \/ w.heap.size <= b) (h2 : ∀ b ∈ M2, b ∈ M \/ w.heap.size <= b) : InN w' x M2 := ⟨k.lw.step hw h1 h2, k.lc.step hw h1 h2, k.lf.step hw h1 h2, k.lp.step hw h1 h2⟩
def tn0 (k cn : Int) : Tn := { zTn k with conn := cn }
structure ReadP (C : PkCode) (B p tb : Nat) (t0 : Tn) (l : List UInt8) (w : World) (e : Ending) (w' : World) : Prop where
 wrote : Wrote [p, tb] w w'
 out : (rPart C false t0 l = none /\ e = .panicked (given 390)) \/ ∃ (y : TnC) (l' : List UInt8), rPart C false t0 l = some (y.t, l') /\ e = .returned (.tuple #[]) /\ Rd w' B p l' /\ Blk w' tb y.cells.toArray 55 /\ ∀ M, (∀ b ∈ M, b < w.heap.size) -> InN w' y M
def ReadDo (C : PkCode) (k : Int) : Prop := ∀ c v, kindG c k = some v -> ∃ f1 c1 f2 c2 f3 c3 f4 c4, v = .agg #[fnV f1 c1, fnV f2 c2, fnV f3 c3, fnV f4 c4] /\ fnC f4 /\
 ∀ W B p l tb cn, Rd W B p l -> Blk W tb ((tn0 k cn).cells h3Z hdZ).toArray 55 -> B <= tb -> Calls Tryz.prog f4 (#[.agg #[.pointer (some ⟨p, 0, none⟩)], .pointer (some ⟨tb, 0, none⟩)] ++ c4) W (ReadP C B p tb (tn0 k cn) l W)
theorem sc_P11 (W : World) (B p rb : Nat) (l : List UInt8) (hR : Rd W B p l) (hb : Blk W rb #[.pointer (some ⟨p, 0, none⟩)] 61) : Calls Tryz.prog 22 #[.pointer (some ⟨rb, 0, none⟩)] W (NumP 2 B p l W) := by
 have CN := hid (sc_number hR 2 (by decide) (by decide))
 go_enter Tryz.func22, Tryz.ntmps22
 go_wp2_with (refine wL 61 rfl rfl hb Tryz.underlying61 ?_)
 refine CN.out.mono ?_
 rintro e w1 (⟨hx, rfl, hw1⟩ | ⟨x, hx, rfl, hR1, hw1⟩)
 ·exact ⟨rfl, .inl ⟨hx, rfl, hw1⟩⟩
 ·have H := hid (show NumP 2 B p l W (.returned (.int .i64 x.1)) w1 from .inr ⟨x, hx, rfl, hR1, hw1⟩)
  clear hx hR1 hw1;go_wp2
  go_ret
  exact H.out
end
end Go.Proofs.YtkghejaimhoboaaGreatDoor
