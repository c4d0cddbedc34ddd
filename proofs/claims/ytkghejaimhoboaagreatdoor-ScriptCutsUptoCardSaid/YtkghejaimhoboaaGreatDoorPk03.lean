/- Parts of the proof of ScriptCuts: contracts of functions that it reaches, and plain lemmas. No condition of their own. -/
import Derived.Test.YtkghejaimhoboaaGreatDoorPk01
import Derived.Deep.RegionHeld3
import Derived.Test.YtkghejaimhoboaaGreatDoorPk02
set_option linter.unusedSimpArgs false
set_option linter.unusedVariables false
set_option maxRecDepth 100000
set_option maxHeartbeats 8000000
namespace Go.Proofs.YtkghejaimhoboaaGreatDoor
open Go.RowKit Go.Shelf
section
structure Wrote (M : List Nat) (w w' : World) : Prop where
 os : w'.os = w.os
 tape : w'.tape = w.tape
 output : w'.output = w.output
 size : w.heap.size <= w'.heap.size
 block : ∀ k, k < w.heap.size -> k ∉ M -> w'.heap[k]? = w.heap[k]?
theorem Wrote.refl (M : List Nat) (w : World) : Wrote M w w := ⟨rfl, rfl, rfl, Nat.le_refl _, fun _ _ _ => rfl⟩
theorem Wrote.trans {M : List Nat} {a b c : World} (h : Wrote M a b) (k : Wrote M b c) : Wrote M a c :=
 ⟨k.os.trans h.os, k.tape.trans h.tape, k.output.trans h.output, Nat.le_trans h.size k.size, fun i hi hm => (k.block i (Nat.lt_of_lt_of_le hi h.size) hm).trans (h.block i hi hm)⟩
theorem Wrote.sub {M M' : List Nat} {a b : World} (h : Wrote M a b) (hs : ∀ x ∈ M, x ∈ M') : Wrote M' a b :=
 ⟨h.os, h.tape, h.output, h.size, fun i hi hm => h.block i hi (fun hx => hm (hs i hx))⟩
theorem Wrote.of_grown {M : List Nat} {a b : World} {row : Option Nat} (h : a.grownBy b row) (hr : ∀ k, row = some k -> k ∈ M) : Wrote M a b :=
 ⟨h.os, h.tape, h.output, h.size, fun i hi hm => h.block i hi (fun e => hm (hr i e.symm))⟩
theorem Wrote.of_below {M : List Nat} {a b : World} (h : Below a.heap.size a b) : Wrote M a b := ⟨h.os, h.tape, h.output, h.size, fun i hi _ => h.block i hi⟩
theorem Wrote.alloc (M : List Nat) (w : World) (o : Obj) : Wrote M w (w.alloc o) := Wrote.of_below ((Below.refl _ _).alloc (Nat.le_refl _) o)
theorem Wrote.setCell {M : List Nat} (w : World) (p : Addr) (hp : p.block ∈ M) (v : Value) : Wrote M w (w.setCell p v) :=
 ⟨rfl, rfl, rfl, by simp [World.setCell], fun i hi hm => Below.heap_setCell _ _ _ _ (fun e => hm (e ▸ hp))⟩
theorem Wrote.putObj {M : List Nat} (w : World) (l : Nat) (hl : l ∈ M) (o : Obj) : Wrote M w (w.putObj l o) :=
 Wrote.of_grown (grownBy_putObj' w l o) (fun k e => by cases e; exact hl)
theorem Wrote.below {M : List Nat} {a b : World} {n₀ : Nat} (h : Wrote M a b) (hn : n₀ <= a.heap.size) (hM : ∀ x ∈ M, n₀ <= x) : Below n₀ a b :=
 ⟨h.os, h.tape, h.output, h.size, fun k hk => h.block k (by omega) (fun hm => by have := hM k hm; omega)⟩
theorem Wrote.boxed {M : List Nat} {a b : World} {B : Nat} {t : TypeId} {v : Value} (h : Wrote M a b) (hB : B ∉ M) (hb : Boxed a B t v) : Boxed b B t v := (h.block B hb.lt hB).trans hb
theorem Wrote.row {M : List Nat} {a b : World} {base : Nat} {e : TypeId} {size : Nat} {v : Value} {n : Nat} {xs : List Value} (h : Wrote M a b) (hM : ∀ x ∈ M, x < base) (ho : a.ownsRow base e size v n xs) :
  b.ownsRow base e size v n xs := by
 obtain ⟨hl, hx | ⟨g, cap, cur, rfl, hg, hh, hx⟩⟩ := ho
 ·exact ⟨hl, .inl hx⟩
 ·exact ⟨hl, .inr ⟨g, cap, cur, rfl, hg, (h.block g (Array.getElem?_eq_some_iff.1 hh).1 (fun hm => by have := hM g hm; omega)).trans hh, hx⟩⟩
structure Keep (n₀ : Nat) (L : List Nat) (w w' : World) : Prop where
 bel : Below n₀ w w'
 keep : ∀ k ∈ L, w'.heap[k]? = w.heap[k]?
theorem Keep.refl (n₀ : Nat) (L : List Nat) (w : World) : Keep n₀ L w w := ⟨Below.refl _ _, fun _ _ => rfl⟩
theorem Keep.trans {n₀ : Nat} {L : List Nat} {a b c : World} (h : Keep n₀ L a b) (k : Keep n₀ L b c) : Keep n₀ L a c := ⟨h.bel.trans k.bel, fun i hi => (k.keep i hi).trans (h.keep i hi)⟩
theorem Keep.of_below {n₀ : Nat} {L : List Nat} {a b : World} (h : Below a.heap.size a b) (hn : n₀ <= a.heap.size) (hL : ∀ k ∈ L, k < a.heap.size) : Keep n₀ L a b := ⟨h.mono hn, fun k hk => h.block k (hL k hk)⟩
theorem Keep.of_wrote {n₀ : Nat} {L M : List Nat} {a b : World} (h : Wrote M a b) (hn : n₀ <= a.heap.size) (hL : ∀ k ∈ L, k < a.heap.size) (hM : ∀ x ∈ M, n₀ <= x) (hd : ∀ k ∈ L, k ∉ M) : Keep n₀ L a b :=
 ⟨h.below hn hM, fun k hk => h.block k (hL k hk) (hd k hk)⟩
theorem Keep.setCell {n₀ : Nat} {L : List Nat} (w : World) (p : Addr) (hn : n₀ <= p.block) (hL : ∀ k ∈ L, k ≠ p.block) (v : Value) : Keep n₀ L w (w.setCell p v) :=
 ⟨(Below.refl n₀ w).setCell hn v, fun k hk => Below.heap_setCell _ _ _ _ (hL k hk)⟩
theorem Keep.grown {n₀ : Nat} {L : List Nat} {w w' : World} {row : Option Nat} (h : w.grownBy w' row) (hn : n₀ <= w.heap.size) (hr : ∀ k, row = some k -> n₀ <= k /\ k ∉ L) (hL : ∀ k ∈ L, k < w.heap.size) : Keep n₀ L w w' :=
 ⟨(Below.refl n₀ w).grown h hn (fun k e => (hr k e).1), fun k hk => h.block k (hL k hk) (fun e => (hr k e.symm).2 hk)⟩
def SeqG {α : Type} (P : Program) (g : Nat) (lb : Array Value) (encs : α -> Array Value) (Kp Ab : World -> World -> Prop) (Nx : List α -> α -> World -> Prop) (S Sp : List α -> Prop) (w : World) : Prop :=
 ∀ (l : Nat) (J Jx : List α -> World -> Prop) (W : World), Below w.heap.size w W -> w.heap.size <= l ->
  (∀ s A A', J s A -> Ab A A' -> J s A') -> (∀ s A A', Jx s A -> Ab A A' -> Jx s A') ->
  (∀ pre x W1, J pre W1 -> Nx pre x W1 -> YieldAt Fence.wide 0 P l (encs x) W1 fun e W' =>
   (e = .returned (.bool true) /\ J (pre ++ [x]) W' /\ Kp W1 W') \/ (e = .returned (.bool false) /\ Jx (pre ++ [x]) W')) ->
  J [] W ->
  CallsIn Fence.wide 0 P g (#[.func (.yield l) #[] #[]] ++ lb) W fun e W' => (∃ v, e = .returned v) /\ ((∃ xs, S xs /\ J xs W') \/ (∃ pre, Sp pre /\ Jx pre W'))
def roundEnd {α : Type} (B : Nat) (Kp : World -> World -> Prop) (I : List α -> World -> Prop) (Ix : Code -> List α -> World -> Prop) (xs : List α) (W : World) : Exit -> Act -> World -> Prop
 | .normal, _, W' => Keep 0 [B, B + 1] W W' /\ Kp W W' /\ I xs W'
 | .ret, _, W' => Keep 0 [B, B + 1] W W' /\ Ix .ret xs W'
 | .exit id, _, W' => Keep 0 [B, B + 1] W W' /\ Ix (.exit id) xs W'
 | .goto t, _, W' => Keep 0 [B, B + 1] W W' /\ Ix (.goto t) xs W'
 | .panic _, _, _ => False
 | .outgrown, _, _ => False
theorem wp_rangeG {P : Program} {α : Type} {g : Operand} {ps : Array Tmp} {assign body : Code} {Q : Exit -> Act -> World -> Prop} {a : Act} {w : World}
  {gf : Nat} {lb : Array Value} (hg : a.eval g = .func (.func gf) #[] lb) (eg : ∀ args w, (callFunc gf args).run P w = .ok (.enter gf args) w)
  {encs : α -> Array Value} {Kp Ab : World -> World -> Prop} {Nx : List α -> α -> World -> Prop} {S Sp : List α -> Prop} (hseq : SeqG P gf lb encs Kp Ab Nx S Sp w)
  (hKt : ∀ {A B C : World}, Kp A B -> Kp B C -> Kp A C) (hKb : ∀ (W : World) (o : Obj), w.heap.size + 1 < W.heap.size -> Kp W (W.putObj (w.heap.size + 1) o))
  (hAb : ∀ A B, Ab A B -> w.heap.size + 1 < A.heap.size -> A.heap.size <= B.heap.size /\ B.heap[w.heap.size]? = A.heap[w.heap.size]? /\ B.heap[w.heap.size + 1]? = A.heap[w.heap.size + 1]?)
  (hps : ∀ x, (encs x).size = ps.size)
  (I : List α -> World -> Prop) (Ix : Code -> List α -> World -> Prop)
  (hI : ∀ s A A', I s A -> Ab A A' -> I s A') (hIx : ∀ c s A A', Ix c s A -> Ab A A' -> Ix c s A')
  (hIo : ∀ s A o, I s A -> w.heap.size + 1 < A.heap.size -> I s (A.putObj (w.heap.size + 1) o)) (hIxo : ∀ c s A o, Ix c s A -> w.heap.size + 1 < A.heap.size -> Ix c s (A.putObj (w.heap.size + 1) o))
  (h0 : ∀ r, I [] ((w.alloc (.deferred (some []))).alloc (.loop r)))
  (Ax : List α -> α -> Act -> World -> Prop) (hAx : ∀ pre x a' A o, Ax pre x a' A -> w.heap.size + 1 < A.heap.size -> Ax pre x a' (A.putObj (w.heap.size + 1) o))
  (hassign : ∀ (pre : List α) (x : α) (W : World) (K : Act -> World -> Prop), w.heap.size + 1 < W.heap.size -> I pre W -> Nx pre x W -> (∀ a' W', Keep 0 [w.heap.size, w.heap.size + 1] W W' -> Kp W W' -> I pre W' -> Ax pre x a' W' -> K a' W') ->
   assign.wpIn (Fence.wide.inRound (w.heap.size + 1)) 0 P (Exit.then K (fun _ _ _ => False)) { tmps := (ps.zip (encs x)).foldl (fun t (p, v) => t.setIfInBounds p v) a.tmps, defers := [] } W)
  (hbody : ∀ (pre : List α) (x : α) (a' : Act) (W : World), w.heap.size + 1 < W.heap.size -> I pre W -> Ax pre x a' W -> body.wpIn (Fence.wide.inRound (w.heap.size + 1)) 0 P (roundEnd w.heap.size Kp I Ix (pre ++ [x]) W) a' W)
  (hdone : ∀ (xs : List α) (W : World), S xs -> I xs W -> w.heap.size < W.heap.size -> W.heap[w.heap.size]? = some (.deferred (some [])) -> Q .normal { a with defers := { target := .collected w.heap.size, args := #[] } :: a.defers } W)
  (hstop : ∀ (c : Code) (pre : List α) (W : World), Sp pre -> Ix c pre W -> w.heap.size < W.heap.size -> W.heap[w.heap.size]? = some (.deferred (some [])) -> c.wp P Q { a with defers := { target := .collected w.heap.size, args := #[] } :: a.defers } W) :
  (Code.rangeFunc g ps assign body).wp P Q a w := by
 refine (wpIn_wide (n := 0)).1 (wpIn_rangeFunc ?_)
 intro fn hfn
 obtain ⟨rec, hrec⟩ : ∃ rec : LoopState -> Option Code -> Loop, rec = fun st pe => { state := st, pending := pe, fn, tmps := a.tmps, params := ps, assign, body, defers := w.heap.size } := ⟨_, rfl⟩
 obtain ⟨W1, hW1⟩ : ∃ W1, (w.alloc (.deferred (some []))).alloc (.loop (rec .ready none)) = W1 := ⟨_, rfl⟩
 have hL1 : W1.heap[w.heap.size + 1]? = some (.loop (rec .ready none)) := by
  rw [<- hW1]; have := World.alloc_heap_new (w.alloc (.deferred (some []))) (.loop (rec .ready none)); rwa [World.size_alloc] at this
 have hK1 : W1.heap[w.heap.size]? = some (.deferred (some [])) := by
  rw [<- hW1]; exact (Below.heap_alloc _ _ _ (by simp)).trans (World.alloc_heap_new w _)
 have hI1 : I [] W1 := by rw [<- hW1]; exact h0 _
 have hb1 : Below w.heap.size w W1 := by
  rw [<- hW1]; exact ((Below.refl _ w).alloc (Nat.le_refl _) _).alloc (by simp) _
 refine ⟨w.heap.size + 1, [{ target := .collected w.heap.size, args := #[] }], W1, { target := .fn (.func gf) lb, args := #[.func (.yield (w.heap.size + 1)) #[] #[]] }, W1, gf,
  #[.func (.yield (w.heap.size + 1)) #[] #[]] ++ lb, W1, ?_, ?_, fun _ _ => trivial, ?_, fun h => by simp [Fence.wide] at h, ?_⟩
 ·rw [<- hW1, hrec]; exact run_enterLoop_outer _ _ _ _ _
 ·simp only [resolve, hg]
  simp [go_sem]
 ·simp [invoke, go_sem, eg]
 ·refine (hseq (w.heap.size + 1)
   (fun pre W => I pre W /\ W.heap[w.heap.size + 1]? = some (.loop (rec .ready none)) /\ W.heap[w.heap.size]? = some (.deferred (some [])))
   (fun pre W => ∃ c, Ix c pre W /\ W.heap[w.heap.size + 1]? = some (.loop (rec .done (some c))) /\ W.heap[w.heap.size]? = some (.deferred (some [])))
   W1 hb1 (Nat.le_succ _)
   (fun s A B hs hab => by
    have hlt := (Array.getElem?_eq_some_iff.1 hs.2.1).1
    obtain ⟨_, h1, h2⟩ := hAb A B hab hlt
    exact ⟨hI s A B hs.1 hab, h2.trans hs.2.1, h1.trans hs.2.2⟩)
   (fun s A B hs hab => by
    obtain ⟨c, hc, hl, hk⟩ := hs
    have hlt := (Array.getElem?_eq_some_iff.1 hl).1
    obtain ⟨_, h1, h2⟩ := hAb A B hab hlt
    exact ⟨c, hIx c s A B hc hab, h2.trans hl, h1.trans hk⟩)
   ?_ ⟨hI1, hL1, hK1⟩).mono ?_
  ·rintro pre x W ⟨hi, hl, hk⟩ hnx
   have hlt : w.heap.size + 1 < W.heap.size := (Array.getElem?_eq_some_iff.1 hl).1
   have hy := run_yield (P := P) (args := encs x) hl (by rw [hrec]; exact hps x)
   rw [hrec] at hy
   refine ⟨fn, _, assign, body, hy, roundIn_of_wpIn hfn (hassign pre x W _ hlt hi hnx ?_)⟩
   clear hy;intro a' Wa hka hkpa hia hax
   have hla := (hka.keep _ (by simp : w.heap.size + 1 ∈ _)).trans hl
   have hda := (hka.keep _ (by simp : w.heap.size ∈ _)).trans hk
   have hlta : w.heap.size + 1 < Wa.heap.size := (Array.getElem?_eq_some_iff.1 hla).1
   refine ⟨_, run_beginRound hla (by rw [hrec]), ?_⟩
   have hl2 : (Wa.putObj (w.heap.size + 1) (.loop { rec .ready none with state := .busy })).heap[w.heap.size + 1]? = some (.loop { rec .ready none with state := .busy }) := World.putObj_heap_same hlta
   have hk2 : (Wa.putObj (w.heap.size + 1) (.loop { rec .ready none with state := .busy })).heap[w.heap.size]? = some (.deferred (some [])) := (World.putObj_heap_other (by omega)).trans hda
   refine wpIn_mono (hbody pre x a' _ (by simpa using hlta) (hIo _ _ _ hia hlta) (hAx _ _ _ _ _ hax hlta)) ?_
   have fin : ∀ (jump : Option Code) (W3 : World), Keep 0 [w.heap.size, w.heap.size + 1] (Wa.putObj (w.heap.size + 1) (.loop { rec .ready none with state := .busy })) W3 ->
     (Instr.endRound (w.heap.size + 1) jump).run P W3 = .ok (.bool jump.isNone) (W3.putObj (w.heap.size + 1) (.loop (rec (if jump.isNone then .ready else .done) jump))) /\
     w.heap.size + 1 < W3.heap.size /\
     (W3.putObj (w.heap.size + 1) (.loop (rec (if jump.isNone then .ready else .done) jump))).heap[w.heap.size + 1]? = some (.loop (rec (if jump.isNone then .ready else .done) jump)) /\
     (W3.putObj (w.heap.size + 1) (.loop (rec (if jump.isNone then .ready else .done) jump))).heap[w.heap.size]? = some (.deferred (some [])) := fun jump W3 hk3 => by
    have hl3 := (hk3.keep _ (by simp : w.heap.size + 1 ∈ _)).trans hl2
    have := run_endRound (P := P) jump hl3
    rw [hrec] at this ⊢
    have h4 := (Array.getElem?_eq_some_iff.1 hl3).1
    exact ⟨this, h4, World.putObj_heap_same h4, (World.putObj_heap_other (by omega)).trans ((hk3.keep _ (by simp : w.heap.size ∈ _)).trans hk2)⟩
   rintro e a3 W3 hp
   cases e with
   | normal =>
    obtain ⟨hk3, hkp3, hi3⟩ := hp
    obtain ⟨hr, hl3, hl4, hk4⟩ := fin none W3 hk3
    exact ⟨_, _, hr, .inl ⟨rfl, ⟨hIo _ _ _ hi3 hl3, hl4, hk4⟩, hKt hkpa (hKt (hKt (hKb _ _ hlta) hkp3) (hKb _ _ hl3))⟩⟩
   | ret =>
    obtain ⟨hk3, hi3⟩ := hp
    obtain ⟨hr, hl3, hl4, hk4⟩ := fin (some .ret) W3 hk3
    exact ⟨_, _, hr, .inr ⟨rfl, .ret, hIxo _ _ _ _ hi3 hl3, hl4, hk4⟩⟩
   | exit id =>
    obtain ⟨hk3, hi3⟩ := hp
    obtain ⟨hr, hl3, hl4, hk4⟩ := fin (some (.exit id)) W3 hk3
    exact ⟨_, _, hr, .inr ⟨rfl, .exit id, hIxo _ _ _ _ hi3 hl3, hl4, hk4⟩⟩
   | goto t =>
    obtain ⟨hk3, hi3⟩ := hp
    obtain ⟨hr, hl3, hl4, hk4⟩ := fin (some (.goto t)) W3 hk3
    exact ⟨_, _, hr, .inr ⟨rfl, .goto t, hIxo _ _ _ _ hi3 hl3, hl4, hk4⟩⟩
   | panic ch => exact hp.elim
   | outgrown => exact hp.elim
  ·rintro e W2 ⟨⟨v, rfl⟩, (⟨xs, hS, hi, hl, hk⟩ | ⟨pre, hSp, c, hi, hl, hk⟩)⟩
   ·have h4 := (Array.getElem?_eq_some_iff.1 hl).1
    exact ⟨none, _, by have := run_endLoop (P := P) hl (by rw [hrec]; simp); rw [hrec] at this; exact this, hdone xs _ hS (hIo _ _ _ hi h4) (by simp; omega) ((World.putObj_heap_other (by omega)).trans hk)⟩
   ·have h4 := (Array.getElem?_eq_some_iff.1 hl).1
    exact ⟨some c, _, by have := run_endLoop (P := P) hl (by rw [hrec]; simp); rw [hrec] at this; exact this, wpIn_wide.2 (hstop c pre _ hSp (hIxo _ _ _ _ hi h4) (by simp; omega) ((World.putObj_heap_other (by omega)).trans hk))⟩
def roundOut {α : Type} (B n₀ : Nat) (L : List Nat) (I : List α -> World -> Prop) (Ix : Code -> List α -> World -> Prop) (xs : List α) (W : World) : Exit -> Act -> World -> Prop
 | .normal, _, W' => Keep n₀ (B :: (B + 1) :: L) W W' /\ I xs W'
 | .ret, _, W' => Keep n₀ (B :: (B + 1) :: L) W W' /\ Ix .ret xs W'
 | .exit id, _, W' => Keep n₀ (B :: (B + 1) :: L) W W' /\ Ix (.exit id) xs W'
 | .goto t, _, W' => Keep n₀ (B :: (B + 1) :: L) W W' /\ Ix (.goto t) xs W'
 | .panic _, _, _ => False
 | .outgrown, _, _ => False
theorem Keep.recs {n₀ : Nat} {B : Nat} {L : List Nat} {a b : World} (h : Keep n₀ (B :: (B + 1) :: L) a b) : Keep 0 [B, B + 1] a b := ⟨h.bel.mono (Nat.zero_le _), fun k hk => h.keep k (by simp at hk ⊢; omega)⟩
theorem Keep.rest {n₀ : Nat} {B : Nat} {L : List Nat} {a b : World} (h : Keep n₀ (B :: (B + 1) :: L) a b) : Keep n₀ L a b := ⟨h.bel, fun k hk => h.keep k (by simp [hk])⟩
theorem wp_range {P : Program} {α : Type} {g : Operand} {ps : Array Tmp} {assign body : Code} {Q : Exit -> Act -> World -> Prop} {a : Act} {w : World}
  {gf : Nat} {lb : Array Value} (hg : a.eval g = .func (.func gf) #[] lb) (eg : ∀ args w, (callFunc gf args).run P w = .ok (.enter gf args) w)
  {encs : α -> Array Value} {n₀ : Nat} {L M : List Nat} {Nx : List α -> α -> World -> Prop} {S Sp : List α -> Prop} (hseq : SeqG P gf lb encs (Keep n₀ L) (Wrote M) Nx S Sp w)
  (hn : n₀ <= w.heap.size) (hL : ∀ k ∈ L, k < w.heap.size) (hM : ∀ k ∈ M, k < w.heap.size)
  (hps : ∀ x, (encs x).size = ps.size)
  (I : List α -> World -> Prop) (Ix : Code -> List α -> World -> Prop)
  (hI : ∀ s A A', I s A -> Wrote (w.heap.size :: (w.heap.size + 1) :: M) A A' -> I s A') (hIx : ∀ c s A A', Ix c s A -> Wrote (w.heap.size :: (w.heap.size + 1) :: M) A A' -> Ix c s A')
  (h0 : I [] w)
  (Ax : List α -> α -> Act -> World -> Prop) (hAx : ∀ pre x a' A A', Ax pre x a' A -> w.heap.size + 1 < A.heap.size -> Wrote [w.heap.size + 1] A A' -> Ax pre x a' A')
  (hassign : ∀ (pre : List α) (x : α) (W : World) (K : Act -> World -> Prop), w.heap.size + 1 < W.heap.size -> I pre W -> Nx pre x W -> (∀ a' W', Below W.heap.size W W' -> I pre W' -> Ax pre x a' W' -> K a' W') ->
   assign.wpIn (Fence.wide.inRound (w.heap.size + 1)) 0 P (Exit.then K (fun _ _ _ => False)) { tmps := (ps.zip (encs x)).foldl (fun t (p, v) => t.setIfInBounds p v) a.tmps, defers := [] } W)
  (hbody : ∀ (pre : List α) (x : α) (a' : Act) (W : World), w.heap.size + 1 < W.heap.size -> I pre W -> Ax pre x a' W -> body.wpIn (Fence.wide.inRound (w.heap.size + 1)) 0 P (roundOut w.heap.size n₀ L I Ix (pre ++ [x]) W) a' W)
  (hdone : ∀ (xs : List α) (W : World), S xs -> I xs W -> w.heap.size < W.heap.size -> W.heap[w.heap.size]? = some (.deferred (some [])) -> Q .normal { a with defers := { target := .collected w.heap.size, args := #[] } :: a.defers } W)
  (hstop : ∀ (c : Code) (pre : List α) (W : World), Sp pre -> Ix c pre W -> w.heap.size < W.heap.size -> W.heap[w.heap.size]? = some (.deferred (some [])) -> c.wp P Q { a with defers := { target := .collected w.heap.size, args := #[] } :: a.defers } W) :
  (Code.rangeFunc g ps assign body).wp P Q a w := by
 have hp : ∀ (A : World) (o : Obj), Wrote (w.heap.size :: (w.heap.size + 1) :: M) A (A.putObj (w.heap.size + 1) o) := fun A o => Wrote.putObj A _ (by simp) o
 refine wp_rangeG hg eg hseq (fun h k => h.trans k) (fun W o hl => ?_) (fun A A' h hl => ?_) hps I Ix (fun s A A' h k => hI s A A' h (k.sub (fun x hx => by simp [hx]))) (fun c s A A' h k => hIx c s A A' h (k.sub (fun x hx => by simp [hx])))
  (fun s A o h hl => hI s A _ h (hp A o)) (fun c s A o h hl => hIx c s A _ h (hp A o)) (fun r => hI [] w _ h0 ((Wrote.alloc _ _ _).trans (Wrote.alloc _ _ _))) Ax
  (fun pre x a' A o h hl => hAx pre x a' A _ h hl (Wrote.putObj A _ (by simp) o)) (fun pre x W K hl hi hx hK => ?_) (fun pre x a' W hl hi ha => ?_) hdone hstop
 ·exact Keep.of_wrote (M := [w.heap.size + 1]) (Wrote.putObj W _ (by simp) o) (by omega) (fun k hk => by have := hL k hk; omega) (fun x hx => by simp at hx; omega) (fun k hk => by have := hL k hk; simp; omega)
 ·exact ⟨h.size, h.block _ (by omega) (fun hm => by have := hM _ hm; omega), h.block _ hl (fun hm => by have := hM _ hm; omega)⟩
 ·exact hassign pre x W K hl hi hx (fun a' W' hb hi' ha' => hK a' W' (Keep.of_below hb (Nat.zero_le _) (fun k hk => by simp at hk; omega)) (Keep.of_below hb (by omega) (fun k hk => by have := hL k hk; omega)) hi' ha')
 ·refine wpIn_mono (hbody pre x a' W hl hi ha) ?_
  intro e a3 W3 hp
  cases e with
  | normal => exact ⟨hp.1.recs, hp.1.rest, hp.2⟩
  | ret => exact ⟨hp.1.recs, hp.2⟩
  | exit id => exact ⟨hp.1.recs, hp.2⟩
  | goto t => exact ⟨hp.1.recs, hp.2⟩
  | panic ch => exact hp.elim
  | outgrown => exact hp.elim
theorem inW {P : Program} {f : FuncId} {args : Array Value} {w : World} {R R' : Ending -> World -> Prop} (h : Calls P f args w R) (hr : ∀ e w', R e w' -> R' e w') :
  Fence.wide.fn f /\ Fence.wide.depth = none /\ CallsIn Fence.wide 0 P f args w R' := ⟨trivial, rfl, (callsIn_wide (n := 0)).2 (h.mono hr)⟩
theorem ret_mark {P : Program} {fn : Func} {tmps : Array Value} {R : Ending -> World -> Prop} {D : Nat} {w : World} {v : Value} (hK : w.heap[D]? = some (.deferred (some [])))
  (hres : ∀ w', w' = w.putObj D (.deferred none) -> (results fn tmps).run P w' = .ok v w' /\ R (.returned v) w') :
  bodyPostM Fence.wide 0 P fn R .ret { tmps := tmps, defers := [{ target := .collected D, args := #[] }] } w := by
 obtain ⟨h1, h2⟩ := hres _ rfl
 exact ⟨by simp, .inl ⟨_, _, rfl, run_takeDeferred hK, ⟨_, h1, h2⟩⟩⟩
theorem calls_marks {P : Program} {f : FuncId} {fn : Func} {c : Code} {args : Array Value} {w : World} {R : Ending -> World -> Prop} (hf : P.funcs[f]? = some fn) (hb : fn.body = some c)
  (h : c.wp P (bodyPostM Fence.wide 0 P fn R) { tmps := args ++ Array.replicate (fn.ntmps - args.size) undef, defers := [] } w) : Calls P f args w R :=
 (callsIn_wide (n := 0)).1 (callsIn_of_wp_marks hf hb trivial (wpIn_wide.2 h) rfl)
/-! ### A region that draws its order, within a round -/
end
section
attribute [local go_sem] Oper.semAt_some
def errL (most : Int) (r : List UInt8) : Int := if (readL r).2.2 ≠ 0 then (readL r).2.2 else if most < (readL r).1 then 3 else 0
def fullL (r : List UInt8) : Bool := decide ((readL r).2.1 ≠ 0) && decide ((readL r).1 <= r.length - (readL r).2.1)
def cutL (r : List UInt8) : Nat := (readL r).2.1.toNat + (readL r).1.toNat
def partL (r : List UInt8) : List UInt8 := (r.take (cutL r)).drop (readL r).2.1.toNat
def ChainL (most : Int) : List UInt8 -> List (List UInt8) -> List UInt8 -> Prop
 | r, [], r' => r = r'
 | r, p :: ps, r' => errL most r = 0 /\ fullL r = true /\ p = partL r /\ ChainL most (r.drop (cutL r)) ps r'
theorem ChainL.snoc {most : Int} {r : List UInt8} {ps : List (List UInt8)} {r' : List UInt8} (h : ChainL most r ps r') (h1 : errL most r' = 0) (h2 : fullL r' = true) :
  ChainL most r (ps ++ [partL r']) (r'.drop (cutL r')) := by
 induction ps generalizing r with
 | nil => obtain rfl : r = r' := h; exact ⟨h1, h2, rfl, rfl⟩
 | cons p ps ih => exact ⟨h.1, h.2.1, h.2.2.1, ih h.2.2.2⟩
structure PartV where
 a : Option Addr
 n : Nat
 cap : Nat
 size : Int
 why : Int
 raw : List UInt8
def PartV.enc (x : PartV) : Value := .agg #[.slice x.a x.n x.cap, .int .i64 x.size, .int .i64 x.why]
theorem readL_facts (r : List UInt8) : 0 <= (readL r).1 /\ (readL r).1 <= 268435455 /\ 0 <= (readL r).2.1 /\ (readL r).2.1 <= r.length /\ (readL r).2.1 <= 4 /\ 0 <= (readL r).2.2 /\ (readL r).2.2 <= 250 := by
 unfold readL
 have h1 := idxOf_lt (fun x : UInt8 => decide (x.toNat < 128)) (r.take 4)
 simp only [List.length_take] at h1
 generalize idxOf (fun x : UInt8 => decide (x.toNat < 128)) (r.take 4) = e at *
 dsimp only
 split
 ·split <;> simp
 ·split
  ·rename_i h2 h3
   have h4 := takenL_lt (r.take (e.toNat + 1))
   have h5 : (128 : Nat) ^ (r.take (e.toNat + 1)).length <= 128 ^ 4 := Nat.pow_le_pow_right (by decide) (by simp; omega)
   simp
   omega
  ·simp
end
section
section
variable {P : Program} {ops : Array Oper} {Q : Exit -> Act -> World -> Prop} {md : Region.Mode}
def CF (facts : List (Nat × Addr × Value)) (listed : Array Bool) (w : World) : Prop := ∀ f ∈ facts, listed.getD f.1 false = false -> w.cell? f.2.1 = some f.2.2
def ClosedL (md : Region.Mode) (ops : Array Oper) (listed : Array Bool) : Prop :=
 listed.size = ops.size /\ ∀ (j : Nat) (o : Oper), ops[j]? = some o -> listed.getD j false = true -> ∀ e ∈ o.after, Region.binds md e = true -> listed.getD e.on false = true
theorem getD_set_self_or {listed : Array Bool} {i j : Nat} (h : (listed.setIfInBounds i true).getD j false = true) : j = i \/ listed.getD j false = true := by
 by_cases hij : i = j
 ·exact .inl hij.symm
 ·rw [getD_set_ne false hij] at h; exact .inr h
theorem ClosedL.step {listed : Array Bool} {i : Nat} (h : ClosedL md ops listed) (hi : i ∈ Region.ready md ops listed) : ClosedL md ops (listed.setIfInBounds i true) := by
 refine ⟨by simpa using h.1, fun j o ho hj e he hb => ?_⟩
 rcases getD_set_self_or hj with rfl | hj
 ·obtain ⟨_, o', ho', hall⟩ := mem_ready.1 hi
  rw [ho] at ho'; cases ho'
  exact getD_set_true (hall e he hb)
 ·exact getD_set_true (h.2 j o ho hj e he hb)
theorem ClosedL.start : ClosedL md ops (Array.replicate ops.size false) := by
 refine ⟨by simp, fun j o ho hj => ?_⟩
 have hlt := (Array.getElem?_eq_some_iff.1 ho).1
 simp [hlt] at hj
def waits (md : Region.Mode) (ops : Array Oper) (k i : Nat) : Bool :=
 match ops[k]? with
 | none => true
 | some o => o.after.any fun e => Region.binds md e && e.on == i
theorem CF.cell {facts : List (Nat × Addr × Value)} {listed : Array Bool} {w : World} {i : Nat} (hc : ClosedL md ops listed) (hn : listed.getD i true = false) (h : CF facts listed w) (k : Nat) (p : Addr) (v : Value)
  (hm : (k, p, v) ∈ facts) (hw : waits md ops k i = true) : w.cell? p = some v := by
 refine h _ hm ?_
 dsimp only
 unfold waits at hw
 cases hk : ops[k]? with
 | none =>
  have h1 := Array.getElem?_eq_none_iff.1 hk
  have h2 : listed[k]? = none := Array.getElem?_eq_none_iff.2 (by rw [hc.1]; exact h1)
  rw [Array.getD_eq_getD_getElem?, h2]
  rfl
 | some o =>
  rw [hk] at hw
  obtain ⟨e, he, hb⟩ := Array.any_eq_true'.1 hw
  simp only [Bool.and_eq_true, beq_iff_eq] at hb
  cases hl : listed.getD k false with
  | false => rfl
  | true =>
   have h1 := hc.2 k o hk hl e he hb.1
   rw [hb.2] at h1
   rcases Nat.lt_or_ge i listed.size with h' | h'
   ·simp [h'] at hn h1; rw [hn] at h1; cases h1
   ·simp [Array.getElem?_eq_none h'] at h1
def wpAnyL (P : Program) (md : Region.Mode) (ops : Array Oper) (Q : Exit -> Act -> World -> Prop) (facts : List (Nat × Addr × Value)) : Nat -> Array Bool -> Act -> World -> Prop
 | 0, listed, a, w => Region.ready md ops listed = [] /\ Q .normal a w
 | fuel + 1, listed, a, w =>
  (Region.ready md ops listed = [] -> Q .normal a w) /\
  ∀ i ∈ Region.ready md ops listed, wpOp P ops Q i (fun a' w' => CF facts (listed.setIfInBounds i true) w' /\ wpAnyL P md ops Q facts fuel (listed.setIfInBounds i true) a' w') a w
theorem CF.set {facts : List (Nat × Addr × Value)} {listed : Array Bool} {w : World} {i : Nat} (hk : ∀ f ∈ facts, f.1 ≠ i) : CF facts (listed.setIfInBounds i true) w ↔ CF facts listed w := by
 constructor
 ·intro h f hf hl; exact h f hf (by rw [getD_set_ne false (Ne.symm (hk f hf))]; exact hl)
 ·intro h f hf hl; exact h f hf (by rw [getD_set_ne false (Ne.symm (hk f hf))] at hl; exact hl)
def AllReadyL (P : Program) (md : Region.Mode) (ops : Array Oper) (Q : Exit -> Act -> World -> Prop) (facts : List (Nat × Addr × Value)) (fuel : Nat) (listed : Array Bool) (a : Act) (w : World) (rs : List Nat) : Prop :=
 ∀ i ∈ rs, wpOp P ops Q i (fun a' w' => CF facts (listed.setIfInBounds i true) w' /\ wpAnyL P md ops Q facts fuel (listed.setIfInBounds i true) a' w') a w
theorem AllReadyL.nil {facts : List (Nat × Addr × Value)} {fuel : Nat} {listed : Array Bool} {a : Act} {w : World} : AllReadyL P md ops Q facts fuel listed a w [] := fun _ h => by cases h
theorem AllReadyL.cons {facts : List (Nat × Addr × Value)} {fuel : Nat} {listed : Array Bool} {a : Act} {w : World} {i : Nat} {o : Oper} {rs : List Nat} (ho : ops[i]? = some o)
  (h : ∀ K' : Act -> World -> Prop, Shut (∀ a w, CF facts (listed.setIfInBounds i true) w -> (CF facts (listed.setIfInBounds i true) w -> wpAnyL P md ops Q facts fuel (listed.setIfInBounds i true) a w) -> K' a w) -> if Region.wanted o (yielded ops a.tmps) = true then Oper.wp P o a w K' Q else K' (a.put o.dst undef) w)
  (hs : AllReadyL P md ops Q facts fuel listed a w rs) : AllReadyL P md ops Q facts fuel listed a w (i :: rs) := fun j hj => by
 rcases List.mem_cons.1 hj with rfl | hj
 ·exact wpOp_step ho (fun K' hK => h K' (fun a w hS hW => hK a w ⟨hS, hW hS⟩))
 ·exact hs j hj
theorem CF.drew {facts : List (Nat × Addr × Value)} {w : World} (h : ∀ f ∈ facts, w.cell? f.2.1 = some f.2.2) (listed : Array Bool) : CF facts listed w.drew := fun f hf _ => by
 exact h f hf
theorem CF.step {facts : List (Nat × Addr × Value)} {listed : Array Bool} {w w' : World} {i : Nat} (h : CF facts listed w) (hi : i < listed.size)
  (hc : ∀ f ∈ facts, f.1 ≠ i -> w.cell? f.2.1 = some f.2.2 -> w'.cell? f.2.1 = some f.2.2) : CF facts (listed.setIfInBounds i true) w' := fun f hf hl => by
 by_cases he : f.1 = i
 ·rw [he] at hl; simp [hi] at hl
 ·exact hc f hf he (h f hf (by rwa [getD_set_ne false (Ne.symm he)] at hl))
theorem CF.below {facts : List (Nat × Addr × Value)} {listed : Array Bool} {w w' : World} {i : Nat} (h : CF facts listed w) (hi : i < listed.size) (hb : Below w.heap.size w w') : CF facts (listed.setIfInBounds i true) w' :=
 h.step hi fun f _ _ hc => (hb.cell (cell_lt hc)).trans hc
theorem CF.store {facts : List (Nat × Addr × Value)} {listed : Array Bool} {w : World} {i : Nat} (h : CF facts listed w) (hi : i < listed.size) (p : Addr) (v : Value)
  (hp : ∀ f ∈ facts, f.1 ≠ i -> p.block ≠ f.2.1.block) : CF facts (listed.setIfInBounds i true) (w.setCell p v) :=
 h.step hi fun f hf he hc => (World.cell?_setCell_far w p f.2.1 v (hp f hf he)).trans hc
theorem CF.grown {facts : List (Nat × Addr × Value)} {listed : Array Bool} {w w' : World} {i : Nat} {row : Option Nat} (h : CF facts listed w) (hi : i < listed.size) (hg : w.grownBy w' row)
  (hr : ∀ f ∈ facts, some f.2.1.block ≠ row) : CF facts (listed.setIfInBounds i true) w' :=
 h.step hi fun f hf _ hc => hg.cell hc (hr f hf)
end
/-! What comes behind a region stays out of sight while the region is walked. -/
def onlyN (K : Act -> World -> Prop) : Exit -> Act -> World -> Prop
 | .normal, a, w => K a w
 | _, _, _ => False
theorem wp_K {P : Program} {c : Code} {Q : Exit -> Act -> World -> Prop} {a : Act} {w : World} (h : ∀ K : Act -> World -> Prop, Shut (∀ a w, Q .normal a w -> K a w) -> c.wp P (onlyN K) a w) : c.wp P Q a w :=
 wp_mono (h (fun a w => Q .normal a w) (fun _ _ h => h)) (fun e a w hq => by cases e <;> first | exact hq | exact hq.elim)
end
end Go.Proofs.YtkghejaimhoboaaGreatDoor
