/- A range over a function: as wp_rangeG, the caller told that the loop's own block is a loop's. No program in sight. -/
import Derived.Test.YtoinabapaeebfaaGreatDoorPk04
set_option linter.unusedSimpArgs false
set_option linter.unusedVariables false
namespace Go.Proofs.YtoinabapaeebfaaGreatDoor
open Go.RowKit Go.Shelf

theorem wp_rangeH {P : Program} {α : Type} {g : Operand} {ps : Array Tmp} {assign body : Code} {Q : Exit → Act → World → Prop} {a : Act} {w : World}
    {gf : Nat} {lb : Array Value} (hg : a.eval g = .func (.func gf) #[] lb) (eg : ∀ args w, (callFunc gf args).run P w = .ok (.enter gf args) w)
    {encs : α → Array Value} {Kp Ab : World → World → Prop} {Nx : List α → α → World → Prop} {S Sp : List α → Prop} (hseq : SeqG P gf lb encs Kp Ab Nx S Sp w)
    (hKt : ∀ {A B C : World}, Kp A B → Kp B C → Kp A C) (hKb : ∀ (W : World) (o : Obj), w.heap.size + 1 < W.heap.size → (∃ r, W.heap[w.heap.size + 1]? = some (.loop r)) → Kp W (W.putObj (w.heap.size + 1) o))
    (hAb : ∀ A B, Ab A B → w.heap.size + 1 < A.heap.size → A.heap.size ≤ B.heap.size ∧ B.heap[w.heap.size]? = A.heap[w.heap.size]? ∧ B.heap[w.heap.size + 1]? = A.heap[w.heap.size + 1]?)
    (hps : ∀ x, (encs x).size = ps.size)
    (I : List α → World → Prop) (Ix : Code → List α → World → Prop)
    (hI : ∀ s A A', I s A → Ab A A' → I s A') (hIx : ∀ c s A A', Ix c s A → Ab A A' → Ix c s A')
    (hIo : ∀ s A o, I s A → w.heap.size + 1 < A.heap.size → (∃ r, A.heap[w.heap.size + 1]? = some (.loop r)) → I s (A.putObj (w.heap.size + 1) o)) (hIxo : ∀ c s A o, Ix c s A → w.heap.size + 1 < A.heap.size → (∃ r, A.heap[w.heap.size + 1]? = some (.loop r)) → Ix c s (A.putObj (w.heap.size + 1) o))
    (h0 : ∀ r, I [] ((w.alloc (.deferred (some []))).alloc (.loop r)))
    (Ax : List α → α → Act → World → Prop) (hAx : ∀ pre x a' A o, Ax pre x a' A → w.heap.size + 1 < A.heap.size → Ax pre x a' (A.putObj (w.heap.size + 1) o))
    (hassign : ∀ (pre : List α) (x : α) (W : World) (K : Act → World → Prop), w.heap.size + 1 < W.heap.size → I pre W → Nx pre x W → (∀ a' W', Keep 0 [w.heap.size, w.heap.size + 1] W W' → Kp W W' → I pre W' → Ax pre x a' W' → K a' W') →
      assign.wpIn (Fence.wide.inRound (w.heap.size + 1)) 0 P (Exit.then K (fun _ _ _ => False)) { tmps := (ps.zip (encs x)).foldl (fun t (p, v) => t.setIfInBounds p v) a.tmps, defers := [] } W)
    (hbody : ∀ (pre : List α) (x : α) (a' : Act) (W : World), w.heap.size + 1 < W.heap.size → I pre W → Ax pre x a' W → body.wpIn (Fence.wide.inRound (w.heap.size + 1)) 0 P (roundEnd w.heap.size Kp I Ix (pre ++ [x]) W) a' W)
    (hdone : ∀ (xs : List α) (W : World), S xs → I xs W → w.heap.size < W.heap.size → W.heap[w.heap.size]? = some (.deferred (some [])) → Q .normal { a with defers := { target := .collected w.heap.size, args := #[] } :: a.defers } W)
    (hstop : ∀ (c : Code) (pre : List α) (W : World), Sp pre → Ix c pre W → w.heap.size < W.heap.size → W.heap[w.heap.size]? = some (.deferred (some [])) → c.wp P Q { a with defers := { target := .collected w.heap.size, args := #[] } :: a.defers } W) :
    (Code.rangeFunc g ps assign body).wp P Q a w := by
  refine (wpIn_wide (n := 0)).1 (wpIn_rangeFunc ?_)
  intro fn hfn
  obtain ⟨rec, hrec⟩ : ∃ rec : LoopState → Option Code → Loop, rec = fun st pe => { state := st, pending := pe, fn, tmps := a.tmps, params := ps, assign, body, defers := w.heap.size } := ⟨_, rfl⟩
  obtain ⟨W1, hW1⟩ : ∃ W1, (w.alloc (.deferred (some []))).alloc (.loop (rec .ready none)) = W1 := ⟨_, rfl⟩
  have hL1 : W1.heap[w.heap.size + 1]? = some (.loop (rec .ready none)) := by
    rw [← hW1]; have := World.alloc_heap_new (w.alloc (.deferred (some []))) (.loop (rec .ready none)); rwa [World.size_alloc] at this
  have hK1 : W1.heap[w.heap.size]? = some (.deferred (some [])) := by
    rw [← hW1]; exact (Below.heap_alloc _ _ _ (by simp)).trans (World.alloc_heap_new w _)
  have hI1 : I [] W1 := by rw [← hW1]; exact h0 _
  have hb1 : Below w.heap.size w W1 := by
    rw [← hW1]; exact ((Below.refl _ w).alloc (Nat.le_refl _) _).alloc (by simp) _
  refine ⟨w.heap.size + 1, [{ target := .collected w.heap.size, args := #[] }], W1, { target := .fn (.func gf) lb, args := #[.func (.yield (w.heap.size + 1)) #[] #[]] }, W1, gf,
    #[.func (.yield (w.heap.size + 1)) #[] #[]] ++ lb, W1, ?_, ?_, fun _ _ => trivial, ?_, fun h => by simp [Fence.wide] at h, ?_⟩
  · rw [← hW1, hrec]; exact run_enterLoop_outer _ _ _ _ _
  · simp only [resolve, hg]
    simp [go_sem]
  · simp [invoke, go_sem, eg]
  · refine (hseq (w.heap.size + 1)
      (fun pre W => I pre W ∧ W.heap[w.heap.size + 1]? = some (.loop (rec .ready none)) ∧ W.heap[w.heap.size]? = some (.deferred (some [])))
      (fun pre W => ∃ c, Ix c pre W ∧ W.heap[w.heap.size + 1]? = some (.loop (rec .done (some c))) ∧ W.heap[w.heap.size]? = some (.deferred (some [])))
      W1 hb1 (Nat.le_succ _)
      (fun s A B hs hab => by
        have hlt := (Array.getElem?_eq_some_iff.1 hs.2.1).1
        obtain ⟨_, h1, h2⟩ := hAb A B hab hlt
        exact ⟨hI s A B hs.1 hab, h2.trans hs.2.1, h1.trans hs.2.2⟩)
      (fun s A B hs hab => by
        obtain ⟨c, hc, hl, hk⟩ := hs
        have hlt := (Array.getElem?_eq_some_iff.1 hl).1
        obtain ⟨_, h1, h2⟩ := hAb A B hab hlt
        exact ⟨c, hIx c s A B hc hab, h2.trans hl, h1.trans hk⟩)
      ?_ ⟨hI1, hL1, hK1⟩).mono ?_
    · rintro pre x W ⟨hi, hl, hk⟩ hnx
      have hlt : w.heap.size + 1 < W.heap.size := (Array.getElem?_eq_some_iff.1 hl).1
      have hy := run_yield (P := P) (args := encs x) hl (by rw [hrec]; exact hps x)
      rw [hrec] at hy
      refine ⟨fn, _, assign, body, hy, roundIn_of_wpIn hfn (hassign pre x W _ hlt hi hnx ?_)⟩
      clear hy
      intro a' Wa hka hkpa hia hax
      have hla := (hka.keep _ (by simp : w.heap.size + 1 ∈ _)).trans hl
      have hda := (hka.keep _ (by simp : w.heap.size ∈ _)).trans hk
      have hlta : w.heap.size + 1 < Wa.heap.size := (Array.getElem?_eq_some_iff.1 hla).1
      refine ⟨_, run_beginRound hla (by rw [hrec]), ?_⟩
      have hl2 : (Wa.putObj (w.heap.size + 1) (.loop { rec .ready none with state := .busy })).heap[w.heap.size + 1]? = some (.loop { rec .ready none with state := .busy }) := World.putObj_heap_same hlta
      have hk2 : (Wa.putObj (w.heap.size + 1) (.loop { rec .ready none with state := .busy })).heap[w.heap.size]? = some (.deferred (some [])) := (World.putObj_heap_other (by omega)).trans hda
      refine wpIn_mono (hbody pre x a' _ (by simpa using hlta) (hIo _ _ _ hia hlta ⟨_, hla⟩) (hAx _ _ _ _ _ hax hlta)) ?_
      have fin : ∀ (jump : Option Code) (W3 : World), Keep 0 [w.heap.size, w.heap.size + 1] (Wa.putObj (w.heap.size + 1) (.loop { rec .ready none with state := .busy })) W3 →
          (Instr.endRound (w.heap.size + 1) jump).run P W3 = .ok (.bool jump.isNone) (W3.putObj (w.heap.size + 1) (.loop (rec (if jump.isNone then .ready else .done) jump))) ∧
          w.heap.size + 1 < W3.heap.size ∧
          (W3.putObj (w.heap.size + 1) (.loop (rec (if jump.isNone then .ready else .done) jump))).heap[w.heap.size + 1]? = some (.loop (rec (if jump.isNone then .ready else .done) jump)) ∧
          (W3.putObj (w.heap.size + 1) (.loop (rec (if jump.isNone then .ready else .done) jump))).heap[w.heap.size]? = some (.deferred (some [])) := fun jump W3 hk3 => by
        have hl3 := (hk3.keep _ (by simp : w.heap.size + 1 ∈ _)).trans hl2
        have := run_endRound (P := P) jump hl3
        rw [hrec] at this ⊢
        have h4 := (Array.getElem?_eq_some_iff.1 hl3).1
        exact ⟨this, h4, World.putObj_heap_same h4, (World.putObj_heap_other (by omega)).trans ((hk3.keep _ (by simp : w.heap.size ∈ _)).trans hk2)⟩
      rintro e a3 W3 hp
      cases e with
      | normal =>
        obtain ⟨hk3, hkp3, hi3⟩ := hp
        obtain ⟨hr, hl3, hl4, hk4⟩ := fin none W3 hk3
        exact ⟨_, _, hr, .inl ⟨rfl, ⟨hIo _ _ _ hi3 hl3 ⟨_, (hk3.keep _ (by simp : w.heap.size + 1 ∈ _)).trans hl2⟩, hl4, hk4⟩, hKt hkpa (hKt (hKt (hKb _ _ hlta ⟨_, hla⟩) hkp3) (hKb _ _ hl3 ⟨_, (hk3.keep _ (by simp : w.heap.size + 1 ∈ _)).trans hl2⟩))⟩⟩
      | ret =>
        obtain ⟨hk3, hi3⟩ := hp
        obtain ⟨hr, hl3, hl4, hk4⟩ := fin (some .ret) W3 hk3
        exact ⟨_, _, hr, .inr ⟨rfl, .ret, hIxo _ _ _ _ hi3 hl3 ⟨_, (hk3.keep _ (by simp : w.heap.size + 1 ∈ _)).trans hl2⟩, hl4, hk4⟩⟩
      | exit id =>
        obtain ⟨hk3, hi3⟩ := hp
        obtain ⟨hr, hl3, hl4, hk4⟩ := fin (some (.exit id)) W3 hk3
        exact ⟨_, _, hr, .inr ⟨rfl, .exit id, hIxo _ _ _ _ hi3 hl3 ⟨_, (hk3.keep _ (by simp : w.heap.size + 1 ∈ _)).trans hl2⟩, hl4, hk4⟩⟩
      | goto t =>
        obtain ⟨hk3, hi3⟩ := hp
        obtain ⟨hr, hl3, hl4, hk4⟩ := fin (some (.goto t)) W3 hk3
        exact ⟨_, _, hr, .inr ⟨rfl, .goto t, hIxo _ _ _ _ hi3 hl3 ⟨_, (hk3.keep _ (by simp : w.heap.size + 1 ∈ _)).trans hl2⟩, hl4, hk4⟩⟩
      | panic ch => exact hp.elim
      | outgrown => exact hp.elim
    · rintro e W2 ⟨⟨v, rfl⟩, (⟨xs, hS, hi, hl, hk⟩ | ⟨pre, hSp, c, hi, hl, hk⟩)⟩
      · have h4 := (Array.getElem?_eq_some_iff.1 hl).1
        exact ⟨none, _, by have := run_endLoop (P := P) hl (by rw [hrec]; simp); rw [hrec] at this; exact this, hdone xs _ hS (hIo _ _ _ hi h4 ⟨_, hl⟩) (by simp; omega) ((World.putObj_heap_other (by omega)).trans hk)⟩
      · have h4 := (Array.getElem?_eq_some_iff.1 hl).1
        exact ⟨some c, _, by have := run_endLoop (P := P) hl (by rw [hrec]; simp); rw [hrec] at this; exact this, wpIn_wide.2 (hstop c pre _ hSp (hIxo _ _ _ _ hi h4 ⟨_, hl⟩) (by simp; omega) ((World.putObj_heap_other (by omega)).trans hk))⟩

end Go.Proofs.YtoinabapaeebfaaGreatDoor
