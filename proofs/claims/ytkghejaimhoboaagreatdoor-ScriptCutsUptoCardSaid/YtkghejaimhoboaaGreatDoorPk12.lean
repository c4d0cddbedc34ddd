/- Parts of the proof of ScriptCuts: contracts of functions that it reaches, and plain lemmas. No condition of their own. -/
import Derived.Test.YtkghejaimhoboaaGreatDoorPk11
import Derived.Deep.Cut
import Derived.Test.YtkghejaimhoboaaGreatDoorPk10
import Derived.Deep.QuietTactic
import Derived.BigQuiet
import Derived.ProofKit
import Derived.OpenShut
import Derived.Deep.Slices
import Derived.Test.YtkghejaimhoboaaGreatDoorPk07
set_option linter.unusedSimpArgs false
set_option linter.unusedVariables false
set_option maxRecDepth 100000
set_option maxHeartbeats 8000000
namespace Go.Proofs.YtkghejaimhoboaaGreatDoor
open Go.RowKit Go.Shelf
section
theorem flat_get {α : Type} (f : α -> List Value) (size : Nat) (hf : ∀ x, (f x).length = size) : ∀ (l : List α) (k j : Nat) (x : α), l[k]? = some x -> j < size -> (l.flatMap f)[k * size + j]? = (f x)[j]?
 | [], k, j, x, h, _ => by simp at h
 | y :: l, 0, j, x, h, hj => by
  simp only [List.getElem?_cons_zero, Option.some.injEq] at h
  subst h;rw [List.flatMap_cons, Nat.zero_mul, Nat.zero_add, List.getElem?_append_left (by rw [hf]; exact hj)]
 | y :: l, k + 1, j, x, h, hj => by
  rw [List.getElem?_cons_succ] at h
  rw [List.flatMap_cons, List.getElem?_append_right (by rw [hf, Nat.add_mul]; omega), hf, show (k + 1) * size + j - size = k * size + j by rw [Nat.add_mul]; omega]
  exact flat_get f size hf l k j x h hj
theorem own_range {α : Type} (f : α -> List Value) {size : Nat} (hf : ∀ x, (f x).length = size) {w : World} {base : Nat} {e : TypeId} {a : Option Addr} {cap : Nat} {l : List α} {n : Nat} (hn : l.length = n) (h : w.ownsRow base e size (.slice a n cap) n (l.flatMap f)) {k : Nat} {x : α} (hx : l[k]? = some x) :
  ∃ g, a = some ⟨g, 0, none⟩ /\ n <= cap /\ w.rangeAt g (k * size) (f x) := by
 have hk := (List.getElem?_eq_some_iff.1 hx).1
 have hc := fun g => h.cells (g := g)
 obtain ⟨_, ⟨he, h0⟩ | ⟨g, cap', cur, he, _, _, hn, _⟩⟩ := h
 ·omega
 ·cases he
  refine ⟨g, rfl, hn, fun j v hj => ?_⟩
  have hjs : j < size := by have := (List.getElem?_eq_some_iff.1 hj).1; rw [hf] at this; exact this
  have := hc g rfl (k * size + j) v (by rw [flat_get f size hf l k j x hx hjs]; exact hj)
  rw [Addr.add_mid, Nat.zero_add] at this
  exact this
theorem PackV.len (p : PackV) : p.cells.length = 24 := rfl
theorem ChangeV.len (c : ChangeV) : c.cells.length = 10 := rfl
end
section
structure ActV where
 kind : Int
 qos : Int
 topic : List UInt8
 body : List UInt8
 retain : Bool
 pack : Int
 id : Int
def ActV.cells (x : ActV) : Array Value := #[.int .i64 x.kind, .int .i64 x.qos, .string ⟨x.topic.toArray⟩, .string ⟨x.body.toArray⟩, .bool x.retain, .int .i64 x.pack, .int .i64 x.id]
end
section
structure ActsAt (w : World) (a : Option Addr) (n cap : Nat) (xs : List ActV) : Prop where
 len : xs.length = n
 le : n <= cap
 max : cap <= maxLen
 at' : ∀ i x, xs[i]? = some x -> ∃ g off, a = some ⟨g, off, none⟩ /\ g < w.heap.size /\ w.rangeAt g (off + i * 7) x.cells.toList
theorem range_below {w w' : World} {g o : Nat} {cs : List Value} (h : w.rangeAt g o cs) (hg : g < w.heap.size) (hb : Below w.heap.size w w') : w'.rangeAt g o cs := fun j v hj => by
 have := h j v hj
 rw [<- this]
 exact hb.cell (p := ⟨g, o + j, none⟩) hg
theorem ActsAt.below {w w' : World} {a : Option Addr} {n cap : Nat} {xs : List ActV} (h : ActsAt w a n cap xs) (hb : Below w.heap.size w w') : ActsAt w' a n cap xs :=
 ⟨h.len, h.le, h.max, fun i x hx => by
  obtain ⟨g, off, h1, h2, h3⟩ := h.at' i x hx
  exact ⟨g, off, h1, Nat.lt_of_lt_of_le h2 hb.size, range_below h3 h2 hb⟩⟩
end
section
open Go.RowKit Go.Shelf Go.Deep
variable {H : Type} {enc : TypeId × Value -> H}
instance : Inhabited ActV := ⟨⟨0, 0, [], [], false, 0, 0⟩⟩
theorem cell_blk_lt {w : World} {b o : Nat} {v : Value} (h : w.cell? ⟨b, o, none⟩ = some v) : b < w.heap.size := by
 rcases Nat.lt_or_ge b w.heap.size with h1 | h1
 ·exact h1
 ·unfold World.cell? at h
  simp [Array.getElem?_eq_none h1] at h
end
section
open Go.RowKit Go.Shelf Go.Deep
structure LsAt {α : Type} (f : α -> List Value) (size : Nat) (w : World) (a : Option Addr) (n cap : Nat) (xs : List α) : Prop where
 len : xs.length = n
 le : n <= cap
 max : cap <= maxLen
 at' : ∀ i x, xs[i]? = some x -> ∃ g off, a = some ⟨g, off, none⟩ /\ g < w.heap.size /\ w.rangeAt g (off + i * size) (f x)
section
variable {α : Type} {f : α -> List Value} {size : Nat} {w w' : World} {a : Option Addr} {n cap : Nat} {xs : List α}
theorem LsAt.below (h : LsAt f size w a n cap xs) (hb : Below w.heap.size w w') : LsAt f size w' a n cap xs :=
 ⟨h.len, h.le, h.max, fun i x hx => by
  obtain ⟨g, off, h1, h2, h3⟩ := h.at' i x hx
  exact ⟨g, off, h1, Nat.lt_of_lt_of_le h2 hb.size, range_below h3 h2 hb⟩⟩
theorem LsAt.range (h : LsAt f size w a n cap xs) {i : Nat} {x : α} (hx : xs[i]? = some x) : ∃ g off, a = some ⟨g, off, none⟩ /\ ∀ W, Below w.heap.size w W -> W.rangeAt g (off + i * size) (f x) := by
 obtain ⟨g, off, ha, hg, hr⟩ := h.at' i x hx
 exact ⟨g, off, ha, fun W hb => range_below hr hg hb⟩
theorem LsAt.nil (w : World) : LsAt f size w none 0 0 [] := ⟨rfl, Nat.le_refl _, Nat.zero_le _, fun i x hx => by simp at hx⟩
theorem ls_of_own (hf : ∀ x, (f x).length = size) {base c : Nat} {e : TypeId} (h : w.ownsRow base e size (.slice a n c) n (xs.flatMap f)) (hl : xs.length = n) : LsAt f size w a n c xs := by
 have hat := fun i x (hx : xs[i]? = some x) => own_range f hf hl h (k := i) (x := x) hx
 have hlt := fun k => h.lt k
 obtain ⟨h1, ⟨he, h2⟩ | ⟨g, cap, cur, he, _, hg, hnc, hcm, _⟩⟩ := h
 ·cases he
  have : xs = [] := List.eq_nil_of_length_eq_zero (by omega)
  subst this;exact ⟨rfl, by omega, by simp [maxLen], fun i x hx => by simp at hx⟩
 ·cases he
  refine ⟨hl, hnc, hcm, fun i x hx => ?_⟩
  obtain ⟨g', ha, _, hr⟩ := hat i x hx
  cases ha
  refine ⟨g, 0, rfl, (hlt g rfl).2, ?_⟩
  rw [Nat.zero_add]
  exact hr
end
variable {H : Type} {enc : TypeId × Value -> H}
theorem ls_of {α : Type} [Inhabited α] (f : α -> List Value) {size : Nat} {T e : TypeId} (hT : Tryz.prog.underlying T = some (.slice e)) (hsz : Tryz.prog.cellsOf e = size) (h0 : 0 < size) (Q : α -> Prop) {w : World} {base : Nat} {held : Bool}
  (elem : ∀ {fuel : Nat} {cs : List Value} {x : DataW H × List MemPlace}, DataW.trod enc Tryz.prog w base (fun _ => true) held fuel e cs = some x -> ∃ y : α, cs = f y /\ Q y) {fuel : Nat} {cs : List Value} {x : DataW H × List MemPlace}
  (h : DataW.trod enc Tryz.prog w base (fun _ => true) held fuel T cs = some x) : ∃ a n cap xs, cs = [.slice a n cap] /\ LsAt f size w a n cap xs /\ ∀ y ∈ xs, Q y := by
 rcases open_slice hT h with ⟨hcs, _⟩ | ⟨a, len, cap, m, n, D, Pl, rfl, hb, hl, hm, hmm, _, hx⟩
 ·exact ⟨none, 0, 0, [], hcs, LsAt.nil w, fun y hy => by cases hy⟩
 ·simp only [if_true] at hmm
  subst hmm;rw [hsz] at hx
  have each : ∀ i, i < m -> ∃ y : α, w.cells? base (a.add (i * size)) size = some (f y) /\ Q y := fun i hi => by
   obtain ⟨cs', h1, h2⟩ := hx i hi
   obtain ⟨y, rfl, hq⟩ := elem h2
   exact ⟨y, h1, hq⟩
  obtain ⟨Y, hY⟩ := choose_lt each
  refine ⟨some a, len, m, (List.range len).map Y, rfl, ⟨by simp, hl, hm, fun i y hy => ?_⟩, fun y hy => ?_⟩
  ·have hi : i < len := by have := (List.getElem?_eq_some_iff.1 hy).1; simpa using this
   have hy' : Y i = y := by simpa [hi] using hy
   have h1 := (hY i (by omega)).1
   rw [hy'] at h1
   obtain ⟨_, hlen, hcell⟩ := World.cells?_some h1
   have hlf : (f y).length = size := hlen
   have hc0 := hcell 0 (by omega)
   rw [List.getElem?_eq_getElem (by omega)] at hc0
   obtain ⟨b, off, spot⟩ := a
   have hspot : spot = none := by
    obtain ⟨_, hl0, hz⟩ := World.cells?_some (hY 0 (by omega)).1
    have hl0' : (f (Y 0)).length = size := hl0
    have hz0 := hz 0 (by omega)
    rw [List.getElem?_eq_getElem (by omega)] at hz0
    have hz1 : w.cell? (((⟨b, off, spot⟩ : Addr).add (0 * size)).add 0) = some ((f (Y 0))[0]'(by omega)) := hz0
    rw [Nat.zero_mul] at hz1
    exact World.cell?_spot hz1
   subst hspot;simp only [Addr.add_mid] at hcell hc0
   refine ⟨b, off, rfl, cell_blk_lt hc0, fun j v hj => ?_⟩
   have hj7 : j < size := by have := (List.getElem?_eq_some_iff.1 hj).1; omega
   rw [hcell j hj7]; exact hj
  ·obtain ⟨i, hi, rfl⟩ := List.mem_map.1 hy
   exact (hY i (by have := List.mem_range.1 hi; omega)).2
end
section
theorem rec_Check_sess (client : List UInt8) (seq id : Int) (w : World) (hc : client.length <= 9223372036854775807) :
  Calls Tryz.prog 169 #[.agg (RowV.mk 1 client seq id [] [] 0 false 0).vals] w fun e w' => e = .returned (.int .i64 (if sessMay ⟨1, client, seq, id, [], [], 0, false, 0⟩ then 0 else 2)) /\ Below w.heap.size w w' := by
 have C7 := hid fun w => kinds1 ⟨1, client, seq, id, [], [], 0, false, 0⟩ w hc
 have C8 := hid fun w => kinds2 ⟨1, client, seq, id, [], [], 0, false, 0⟩ w
 have CK := hid rec_kinds;clear hc;obtain ⟨bm, hbm⟩ : ∃ b, sessMay ⟨1, client, seq, id, [], [], 0, false, 0⟩ = b := ⟨_, rfl⟩
 rw [hbm] at C7 ⊢
 clear hbm;unfold sessHas at C8
 unfold RowV.vals at *
 go_enter Tryz.func169, Tryz.ntmps169
 go_wp2
 refine regionQ [(1000, fun w' => w'.cell? ⟨w.heap.size, 0, none⟩ = some (.int .i64 1))] (by kernel_rfl) ⟨by go_simp, trivial⟩ fun KQ hKQ => ?_
 refine tQ [1] ?_;refine lQ 2 0 ?_;refine stepQ2 0 7 rfl rfl (by kernel_rfl) (by decide) (by kernel_rfl) (by kernel_rfl) (fun K hK => ?_) (fun K hK => ?_)
 ·try simp only [GO]
  go_simp;refine (CK.out _).mono ?_
  rintro e w1 ⟨rfl, hm, hb⟩
  replace hb := undrew hb
  replace hm : w1.heap[w.heap.size + 1]? = some (.map kindsE 5) := by simpa using hm
  have hlt : w.heap.size + 1 < w1.heap.size := by
   rcases Nat.lt_or_ge (w.heap.size + 1) w1.heap.size with h | h
   ·exact h
   ·rw [Array.getElem?_eq_none h] at hm; cases hm
  have hm' : ∀ o, (w1.alloc o).heap[w.heap.size + 1]? = some (.map kindsE 5) := fun o => (Below.heap_alloc _ _ _ hlt).trans hm
  have HL' := fun o => run_lookup_at (P := Tryz.prog) 262 133 260 .i64 Tryz.underlying262 Tryz.underlying133 _ _ kindsE 5 (hm' o) 1 _ 0 rfl true
  have HL := run_lookup_at (P := Tryz.prog) 262 133 260 .i64 Tryz.underlying262 Tryz.underlying133 _ _ kindsE 5 hm 1 _ 0 rfl true
  simp only [kindV] at HL HL'
  refine hK _ _ ⟨⟨fun _ => cellB hb (j := 0) rfl, trivial⟩, ?_⟩
  clear hK K;refine stepQ2 3 7 rfl rfl (by kernel_rfl) (by decide) (by kernel_rfl) (by kernel_rfl) (fun K hK => ?_) (fun K hK => ?_)
  ·try simp only [GO]
   go_simp;refine hK _ _ ⟨⟨fun _ => cellB hb (j := 0) rfl, trivial⟩, ?_⟩
   clear hK K;refine tQ [4, 5, 6] ?_;refine sQ 7 fun K hK => ?_;simp only [GO];go_simp;refine hK _ _ ⟨⟨fun _ => cellB (hb.alloc hb.size _) (j := 0) rfl, trivial⟩, ?_⟩
   clear hK K;refine sQ 8 fun K hK => ?_;simp only [GO];go_simp;refine hK _ _ ⟨⟨fun _ => cellB (hb.alloc hb.size _) (j := 0) rfl, trivial⟩, ?_⟩
   clear hK K;refine sQ 9 fun K hK => ?_;simp only [GO];go_simp;refine hK _ _ ⟨⟨fun _ => cellB (hb.alloc hb.size _) (j := 0) rfl, trivial⟩, ?_⟩
   clear hK K;refine dQ (hKQ.out _ _ ?_);clear hKQ KQ;have g0 := cB hb 0 rfl
   have g1 := cB hb 1 rfl
   have g2 := cB hb 2 rfl
   have g3 := cB hb 3 rfl
   have g4 := cB hb 4 rfl
   have g5 := cB hb 5 rfl
   have g6 := cB hb 6 rfl
   have g7 := cB hb 7 rfl
   have g8 := cB hb 8 rfl
   cases bm
   ·go_wp2_with (go_at_call 245; refine (C7.out _).mono ?_; rintro e w2 ⟨rfl, hb2⟩; replace hb2 := (hb.alloc hb.size _).trans (hb2.mono (hb.alloc hb.size _).size))
    go_ret
    exact ⟨rfl, ((Below.refl w.heap.size w).alloc (Nat.le_refl _) _).trans (hb2.mono (by simp))⟩
   ·go_wp2_with (first
     | (go_at_call 245; refine (C7.out _).mono ?_; rintro e w2 ⟨rfl, hb2⟩; have f2 := cellB (w := w1) hb2 (j := 2) rfl; replace hb2 := (hb.alloc hb.size _).trans (hb2.mono (hb.alloc hb.size _).size)
        have g0 := cellB hb2 (j := 0) rfl
        have g1 := cellB hb2 (j := 1) rfl
        have g2 := cellB hb2 (j := 2) rfl
        have g3 := cellB hb2 (j := 3) rfl
        have g4 := cellB hb2 (j := 4) rfl
        have g5 := cellB hb2 (j := 5) rfl
        have g6 := cellB hb2 (j := 6) rfl
        have g7 := cellB hb2 (j := 7) rfl
        have g8 := cellB hb2 (j := 8) rfl
      )
     | (go_at_call 248; refine (C8.out _).mono ?_; rintro e w3 ⟨rfl, hb3⟩; replace hb3 := hb2.trans (hb3.mono hb2.size)
        have g0 := cB hb3 0 rfl
        have g1 := cB hb3 1 rfl
        have g2 := cB hb3 2 rfl
        have g3 := cB hb3 3 rfl
        have g4 := cB hb3 4 rfl
        have g5 := cB hb3 5 rfl
        have g6 := cB hb3 6 rfl
        have g7 := cB hb3 7 rfl
        have g8 := cB hb3 8 rfl
      ))
    go_ret
    exact ⟨rfl, (((Below.refl w.heap.size w).alloc (Nat.le_refl _) _).trans (hb3.mono (by simp))).alloc (by have := hb3.size; simp at this; omega) _⟩
  ·try simp only [GO]
   go_simp;refine hK _ _ ⟨⟨fun _ => cellB (hb.alloc hb.size _) (j := 0) rfl, trivial⟩, ?_⟩
   clear hK K;refine sQ 3 fun K hK => ?_;simp only [GO];go_simp;refine hK _ _ ⟨⟨fun _ => cellB (hb.alloc hb.size _) (j := 0) rfl, trivial⟩, ?_⟩
   clear hK K;refine tQ [4, 5, 6] ?_;refine sQ 8 fun K hK => ?_;simp only [GO];go_simp;refine hK _ _ ⟨⟨fun _ => cellB (hb.alloc hb.size _) (j := 0) rfl, trivial⟩, ?_⟩
   clear hK K;refine sQ 9 fun K hK => ?_;simp only [GO];go_simp;refine hK _ _ ⟨⟨fun _ => cellB (hb.alloc hb.size _) (j := 0) rfl, trivial⟩, ?_⟩
   clear hK K;refine dQ (hKQ.out _ _ ?_);clear hKQ KQ;have g0 := cB hb 0 rfl
   have g1 := cB hb 1 rfl
   have g2 := cB hb 2 rfl
   have g3 := cB hb 3 rfl
   have g4 := cB hb 4 rfl
   have g5 := cB hb 5 rfl
   have g6 := cB hb 6 rfl
   have g7 := cB hb 7 rfl
   have g8 := cB hb 8 rfl
   cases bm
   ·go_wp2_with (go_at_call 245; refine (C7.out _).mono ?_; rintro e w2 ⟨rfl, hb2⟩; replace hb2 := (hb.alloc hb.size _).trans (hb2.mono (hb.alloc hb.size _).size))
    go_ret
    exact ⟨rfl, ((Below.refl w.heap.size w).alloc (Nat.le_refl _) _).trans (hb2.mono (by simp))⟩
   ·go_wp2_with (first
     | (go_at_call 245; refine (C7.out _).mono ?_; rintro e w2 ⟨rfl, hb2⟩; have f2 := cellB (w := w1) hb2 (j := 2) rfl; replace hb2 := (hb.alloc hb.size _).trans (hb2.mono (hb.alloc hb.size _).size)
        have g0 := cellB hb2 (j := 0) rfl
        have g1 := cellB hb2 (j := 1) rfl
        have g2 := cellB hb2 (j := 2) rfl
        have g3 := cellB hb2 (j := 3) rfl
        have g4 := cellB hb2 (j := 4) rfl
        have g5 := cellB hb2 (j := 5) rfl
        have g6 := cellB hb2 (j := 6) rfl
        have g7 := cellB hb2 (j := 7) rfl
        have g8 := cellB hb2 (j := 8) rfl
      )
     | (go_at_call 248; refine (C8.out _).mono ?_; rintro e w3 ⟨rfl, hb3⟩; replace hb3 := hb2.trans (hb3.mono hb2.size)
        have g0 := cB hb3 0 rfl
        have g1 := cB hb3 1 rfl
        have g2 := cB hb3 2 rfl
        have g3 := cB hb3 3 rfl
        have g4 := cB hb3 4 rfl
        have g5 := cB hb3 5 rfl
        have g6 := cB hb3 6 rfl
        have g7 := cB hb3 7 rfl
        have g8 := cB hb3 8 rfl
      ))
    go_ret
    exact ⟨rfl, (((Below.refl w.heap.size w).alloc (Nat.le_refl _) _).trans (hb3.mono (by simp))).alloc (by have := hb3.size; simp at this; omega) _⟩
 ·try simp only [GO]
  go_simp;refine hK _ _ ⟨⟨fun _ => by go_simp, trivial⟩, ?_⟩
  clear hK K;refine sQ 0 fun K hK => ?_;simp only [GO];go_simp;refine (CK.out _).mono ?_
  rintro e w1 ⟨rfl, hm, hb⟩
  replace hb := undrew hb
  have hbr := below_pop hb
  have k0 := cellB hb (j := 0) rfl
  have k1 := cellB hb (j := 1) rfl
  have k2 := cellB hb (j := 2) rfl
  have k3 := cellB hb (j := 3) rfl
  have k4 := cellB hb (j := 4) rfl
  replace hm : w1.heap[w.heap.size + 2]? = some (.map kindsE 5) := by simpa using hm
  have HL := run_lookup_at (P := Tryz.prog) 262 133 260 .i64 Tryz.underlying262 Tryz.underlying133 _ _ kindsE 5 hm 1 _ 0 rfl true
  simp only [kindV] at HL
  refine hK _ _ ⟨⟨fun _ => cellB hbr (j := 0) rfl, trivial⟩, ?_⟩
  clear hK K;refine sQ 3 fun K hK => ?_;simp only [GO];go_simp;refine hK _ _ ⟨⟨fun _ => cellB hbr (j := 0) rfl, trivial⟩, ?_⟩
  clear hK K;refine tQ [4, 5, 6] ?_;refine sQ 8 fun K hK => ?_;simp only [GO];have z0 := frozenB hb 0
  have z1 := frozenB hb 1
  have z2 := frozenB hb 2
  have z3 := frozenB hb 3
  have z4 := frozenB hb 4
  simp only [World.size_alloc] at k0 k1 k2 k3 k4 z0 z1 z2 z3 z4
  go_simp;have hbs := fun v0 v1 v2 v3 v4 => (((((hbr.setCell (p := ⟨w.heap.size + 1, 0, none⟩) (by simp) v0).setCell (p := ⟨w.heap.size + 1, 1, none⟩) (by simp) v1).setCell (p := ⟨w.heap.size + 1, 2, none⟩) (by simp) v2).setCell (p := ⟨w.heap.size + 1, 3, none⟩) (by simp) v3).setCell (p := ⟨w.heap.size + 1, 4, none⟩) (by simp) v4)
  refine hK _ _ ⟨⟨fun _ => cellB (hbs _ _ _ _ _) (j := 0) rfl, trivial⟩, ?_⟩
  clear hK K;refine atR_gen (fun w' => Below (w.alloc (.cells #[.int .i64 1, .string ⟨client.toArray⟩, .int .i64 seq, .int .i64 id, .string ⟨#[]⟩, .string ⟨#[]⟩, .int .i64 0, .bool false, .int .i64 0] 136)).heap.size (w.alloc (.cells #[.int .i64 1, .string ⟨client.toArray⟩, .int .i64 seq, .int .i64 id, .string ⟨#[]⟩, .string ⟨#[]⟩, .int .i64 0, .bool false, .int .i64 0] 136)) w' /\ w'.cell? ⟨w.heap.size + 1, 1, none⟩ = some (.func (.func 245) #[] #[]) /\ w'.cell? ⟨w.heap.size + 1, 2, none⟩ = some (.func (.func 248) #[] #[]) /\ w.heap.size + 1 < w'.heap.size) ⟨hbs _ _ _ _ _, by go_simp, by go_simp, by have := hb.size; simp at this ⊢; omega⟩ fun w2 ⟨hb, f1, f2, hlt⟩ => ?_
  refine sQ 9 fun K hK => ?_;simp only [GO];go_simp;refine hK _ _ ⟨⟨fun _ => cellB hb (j := 0) rfl, trivial⟩, ?_⟩
  clear hK K;refine dQ (hKQ.out _ _ ?_);clear hKQ KQ;have g0 := cellB hb (j := 0) rfl
  have g1 := cellB hb (j := 1) rfl
  have g2 := cellB hb (j := 2) rfl
  have g3 := cellB hb (j := 3) rfl
  have g4 := cellB hb (j := 4) rfl
  have g5 := cellB hb (j := 5) rfl
  have g6 := cellB hb (j := 6) rfl
  have g7 := cellB hb (j := 7) rfl
  have g8 := cellB hb (j := 8) rfl
  cases bm
  ·go_wp2_with (go_at_call 245; refine (C7.out _).mono ?_; rintro e w3 ⟨rfl, hb2⟩; replace hb2 := hb.trans (hb2.mono hb.size))
   go_ret
   exact ⟨rfl, below_pop hb2⟩
  ·go_wp2_with (first
    | (go_at_call 245; refine (C7.out _).mono ?_; rintro e w3 ⟨rfl, hb3⟩; have f3 := (hb3.cell (p := ⟨w.heap.size + 1, 2, none⟩) hlt).trans f2; replace hb3 := hb.trans (hb3.mono hb.size)
       have g0 := cellB hb3 (j := 0) rfl
       have g1 := cellB hb3 (j := 1) rfl
       have g2 := cellB hb3 (j := 2) rfl
       have g3 := cellB hb3 (j := 3) rfl
       have g4 := cellB hb3 (j := 4) rfl
       have g5 := cellB hb3 (j := 5) rfl
       have g6 := cellB hb3 (j := 6) rfl
       have g7 := cellB hb3 (j := 7) rfl
       have g8 := cellB hb3 (j := 8) rfl
     )
    | (go_at_call 248; refine (C8.out _).mono ?_; rintro e w4 ⟨rfl, hb4⟩; replace hb4 := hb3.trans (hb4.mono hb3.size)
       have g0 := cB hb4 0 rfl
       have g1 := cB hb4 1 rfl
       have g2 := cB hb4 2 rfl
       have g3 := cB hb4 3 rfl
       have g4 := cB hb4 4 rfl
       have g5 := cB hb4 5 rfl
       have g6 := cB hb4 6 rfl
       have g7 := cB hb4 7 rfl
       have g8 := cB hb4 8 rfl
     ))
   go_ret
   exact ⟨rfl, ((below_pop hb4).alloc (by have := (below_pop hb4).size; omega) _)⟩
end
end Go.Proofs.YtkghejaimhoboaaGreatDoor
