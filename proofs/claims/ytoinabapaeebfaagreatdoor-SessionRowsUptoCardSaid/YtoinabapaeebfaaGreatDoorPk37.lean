/- Parts of the proof of SessionRows: contracts of functions that it reaches, and plain lemmas. No condition of their own. -/
import Derived.Test.YtoinabapaeebfaaGreatDoorPk27
import Derived.Test.YtoinabapaeebfaaGreatDoorPk32
import Derived.Test.YtoinabapaeebfaaGreatDoorPk36
import Derived.Test.YtoinabapaeebfaaGreatDoorPk22
import Derived.Test.YtoinabapaeebfaaGreatDoorPk03
import Derived.Test.YtoinabapaeebfaaGreatDoorPk16
import Derived.Test.YtoinabapaeebfaaGreatDoorPk23
set_option linter.unusedSimpArgs false
set_option linter.unusedVariables false
set_option maxRecDepth 100000
set_option maxHeartbeats 8000000
namespace Go.Proofs.YtoinabapaeebfaaGreatDoor
open Go.RowKit Go.Shelf
section
open Go.RowKit Go.Shelf Go.Sort
theorem ses_keys (b : Nat) (w : World) : Calls Tryz.prog 123 #[.map (some b)] w fun e w' => e = .returned (.func (.func 186) #[] #[.pointer (some ⟨w.heap.size, 0, none⟩)]) /\ w.alloc (.cells #[.map (some b)] 83) = w' :=
 (callsIn_wide.1 (Tryz.maps_KeysS (some b) w)).mono fun e w' ⟨h1, h2⟩ => ⟨h1, h2.symm⟩
theorem ses_sorted {w : World} {b : Nat} {l : WL} (h : WM w b l) (hkl : ∀ p ∈ l, p.1.length <= 1000000) (hl : l.length <= 1000000) :
  Calls Tryz.prog 122 #[.func (.func 186) #[] #[.pointer (some ⟨w.heap.size, 0, none⟩)]] (w.alloc (.cells #[.map (some b)] 83)) fun e w' => ∃ v, e = .returned v /\
   w'.ownsRow (w.heap.size + 1) 9 1 v l.length ((sortK l).map wStr) /\ Below (w.alloc (.cells #[.map (some b)] 83)).heap.size (w.alloc (.cells #[.map (some b)] 83)) w' := by
 obtain ⟨D, h1, h2, h3⟩ := h.own (P := Tryz.prog) (k := 9) Tryz.underlying9 (fun p hp => by have := hkl p hp; unfold maxLen; omega) (by unfold maxLen; omega)
 refine (callsIn_wide.1 (Tryz.slices_Sorted_keysS b _ D _ w h1 (by rw [h3]; unfold maxLen; omega) (by rw [h3]; omega))).mono ?_
 rintro e w' ⟨v, ss, he, hp, hr, -, hb⟩
 have hpp := hp.trans h2
 refine ⟨v, he, ?_, hb⟩
 have e1 : ss.mergeSort (fun x y => decide (x <= y)) = sortK l := mergeSort_of_perm hpp
 have e2 : ss.length = l.length := by rw [hpp.length_eq, List.length_map]
 rw [e1, e2, show (encStr : List UInt8 -> Value) = wStr from rfl] at hr
 simpa using hr
structure KpS (L : List Nat) (w w' : World) : Prop where
 size : w.heap.size <= w'.heap.size
 keep : ∀ k ∈ L, w'.heap[k]? = w.heap[k]?
 str : ∀ (k : Nat) cs f, w.heap[k]? = some (.cells cs 9 f) -> w'.heap[k]? = some (.cells cs 9 f)
theorem KpS.trans {L : List Nat} {a b c : World} (h : KpS L a b) (k : KpS L b c) : KpS L a c := ⟨Nat.le_trans h.size k.size, fun x hx => (k.keep x hx).trans (h.keep x hx), fun x cs f hx => k.str x cs f (h.str x cs f hx)⟩
theorem KpS.row {L : List Nat} {w w' : World} (h : KpS L w w') {base : Nat} {size : Nat} {v : Value} {n : Nat} {xs : List Value} (hr : w.ownsRow base 9 size v n xs) : w'.ownsRow base 9 size v n xs := by
 obtain ⟨h1, h2⟩ := hr
 refine ⟨h1, h2.imp id ?_⟩
 rintro ⟨g, cap, cur, a1, a2, a3, a4⟩
 exact ⟨g, cap, cur, a1, a2, h.str _ _ _ a3, a4⟩
def encF (p : List UInt8 × Int) : Array Value := #[wStr p.1, .int .i64 p.2]
theorem ses_filters {w : World} (p : Nat) :
  Calls Tryz.prog 69 #[.pointer (some ⟨p, 0, none⟩)] w fun e w' => e = .returned (.func (.func 121) #[] #[.pointer (some ⟨w.heap.size, 0, none⟩)]) /\ w.alloc (.cells #[.pointer (some ⟨p, 0, none⟩)] 55) = w' := by
 go_enter Tryz.func69, Tryz.ntmps69
 go_wp2
 go_ret
 exact ⟨rfl, rfl⟩
theorem ses_filters1 (c p m : Nat) (cs : Array Value) (l : WL) (w : World) (hp : Blk w p cs 132) (hcs : cs[6]? = some (.map (some m))) (hm : WM w m l) (hc : Boxed w c 55 (.pointer (some ⟨p, 0, none⟩)))
  (hkl : ∀ q ∈ l, q.1.length <= 1000000) (hl : l.length <= 1000000) :
  SeqG Tryz.prog 121 #[.pointer (some ⟨c, 0, none⟩)] encF (KpS [c, p, m]) (Wrote []) (fun pre q _ => ∃ i, pre = (sortW l).take i /\ (sortW l)[i]? = some q) (fun xs => xs = sortW l) (fun pre => ∃ i, pre = (sortW l).take (i + 1) /\ i < l.length) w := by
 intro lb J Jx W hW hlb hJ hJx hY h0
 have hc := boxed_below hc hW
 have hp := hp.below hW
 have hm := hm.below hW
 have k6 : W.cell? ⟨p, 6, none⟩ = some (.map (some m)) := (hp.cell 6).trans hcs
 have hc1 := hc.cell
 have CK := hid (ses_keys m W)
 have CS := hid (ses_sorted hm hkl hl)
 refine callsIn_of_wp Tryz.func121 rfl trivial ?_ rfl
 simp only [Tryz.ntmps121, List.size_toArray, List.length_cons, List.length_nil, Nat.reduceAdd, Nat.reduceSub, Array.replicate_succ, Array.replicate_zero, List.push_toArray, List.append_toArray, List.nil_append, List.cons_append]
 gi_wp2_with fail
 refine inW CK.out ?_
 rintro e w1 ⟨rfl, rfl⟩
 gi_wp2_with fail
 refine inW CS.out ?_
 rintro e w2 ⟨v, rfl, hr2, hb2⟩
 obtain ⟨a, cv, rfl⟩ := own_slice hr2
 have hB2 : Below W.heap.size W w2 := ((Below.refl _ W).alloc (Nat.le_refl _) (.cells #[.map (some m)] 83)).trans (hb2.mono (by simp))
 gi_wp2_with fail
 have hkp := (hb2.mono (Nat.le_refl _))
 have hJ2 : J ((sortW l).take 0) w2 := hJ _ _ _ h0 (Wrote.of_below hB2)
 have hc2 := boxed_below hc hB2
 have hp2 := hp.below hB2
 have hm2 := hm.below hB2
 have hsl := sortW_len l
 have hJ2 := hid hJ2;have hr2 := hid hr2;have hc2 := hid hc2;have hp2 := hid hp2;have hm2 := hid hm2;clear hb2 hB2 hkp k6 hc1 CK CS hc hp hm
 gi_loopw [4, 12] (fun _ i wr => ∃ (k : Nat), i = .int .i64 k /\ k <= l.length /\ Hid (J ((sortW l).take k) wr) /\ Hid (Boxed wr c 55 (.pointer (some ⟨p, 0, none⟩))) /\ Hid (Blk wr p cs 132) /\ Hid (WM wr m l) /\ Hid (wr.ownsRow (W.heap.size + 1) 9 1 (.slice a l.length cv) l.length ((sortK l).map wStr)))
  (fun _ i _ => l.length - (intOf i).toNat)
 case atStart => exact ⟨0, rfl, Nat.zero_le _, hJ2, hc2, hp2, hm2, hr2⟩
 case round =>
  obtain ⟨k, rfl, hk, hj, hc3, hp3, hm3, hr3⟩ := hrel
  rcases Nat.lt_or_ge k l.length with hlt | hge
  ·have dk : decide ((k : Int) < (l.length : Int)) = true := decide_eq_true (by omega)
   obtain ⟨q, hq⟩ : ∃ q, (sortW l)[k]? = some q := ⟨_, List.getElem?_eq_getElem (by omega)⟩
   obtain ⟨_, _, hve, hvc⟩ := own_cell hr3.out
   obtain ⟨rfl, rfl⟩ : a = _ /\ cv = _ := by simpa using hve
   have hqk : (sortK l)[k]? = some q.1 /\ q.2 = (look l q.1).getD 0 := by
    unfold sortW at hq
    rw [List.getElem?_map] at hq
    cases hs : (sortK l)[k]? with
    | none => rw [hs] at hq; cases hq
    | some x => rw [hs] at hq; cases hq; exact ⟨rfl, rfl⟩
   obtain ⟨g, hag, hcg⟩ := hvc k (wStr q.1) (by rw [List.getElem?_map, hqk.1]; rfl)
   subst hag;replace hcg : wr.cell? ⟨g, k, none⟩ = some (.string ⟨q.1.toArray⟩) := hcg
   have hc4 := hc3.out.cell
   have k6 : wr.cell? ⟨p, 6, none⟩ = some (.map (some m)) := (hp3.out.cell 6).trans hcs
   have HL := run_lookup_text (P := Tryz.prog) 83 9 3 Tryz.underlying83 Tryz.underlying9 hm3.out (by kernel_rfl) q.1 false
   rw [<- hqk.2] at HL
   simp only [Bool.false_eq_true, if_false] at HL
   obtain ⟨fn, tmps, assign, body, hy2, hR⟩ := hY ((sortW l).take k) q wr hj.out ⟨k, rfl, hq⟩
   replace hy2 : (Instr.yield lb #[.string ⟨q.1.toArray⟩, .int .i64 q.2]).run Tryz.prog wr = _ := hy2
   have hR := hid hR;have hsucc : Hid ((sortW l).take k ++ [q] = (sortW l).take (k + 1)) := hid (by rw [List.take_add_one, hq]; rfl)
   clear hve hvc hqk hq;gi_wp2_with fail
   refine ⟨rfl, hR.out.mono ?_⟩
   rintro e W3 (⟨rfl, hJ3, hk3⟩ | ⟨rfl, hJx3⟩)
   ·have hJ3 := hid hJ3
    have hk3 := hid hk3;gi_wp2
    go_roundw
    case rel => exact ⟨k + 1, by go_num, by omega, hid (by rw [<- hsucc.out]; exact hJ3.out), hid ((hk3.out.keep c (by simp)).trans hc3.out), hid (Blk.keep hp3.out (hk3.out.keep p (by simp))), hid (hm3.out.keep (hk3.out.keep m (by simp))), hid (hk3.out.row hr3.out)⟩
    case measure => simp [intOf]; omega
   ·gi_wp2
    refine bodyPost_ret (results_none rfl _ _ _) rfl ?_
    exact ⟨⟨_, rfl⟩, .inr ⟨_, ⟨k, hsucc.out, hlt⟩, hJx3⟩⟩
  ·obtain rfl : k = l.length := by omega
   have dk : decide ((l.length : Int) < (l.length : Int)) = false := by simp
   gi_wp2
   refine bodyPost_end (results_none rfl _ _ _) rfl ?_
   exact ⟨⟨_, rfl⟩, .inl ⟨_, rfl, by have := hj.out; rwa [List.take_of_length_le (by omega)] at this⟩⟩
end
section
theorem wp_rangeH {P : Program} {α : Type} {g : Operand} {ps : Array Tmp} {assign body : Code} {Q : Exit -> Act -> World -> Prop} {a : Act} {w : World}
  {gf : Nat} {lb : Array Value} (hg : a.eval g = .func (.func gf) #[] lb) (eg : ∀ args w, (callFunc gf args).run P w = .ok (.enter gf args) w)
  {encs : α -> Array Value} {Kp Ab : World -> World -> Prop} {Nx : List α -> α -> World -> Prop} {S Sp : List α -> Prop} (hseq : SeqG P gf lb encs Kp Ab Nx S Sp w)
  (hKt : ∀ {A B C : World}, Kp A B -> Kp B C -> Kp A C) (hKb : ∀ (W : World) (o : Obj), w.heap.size + 1 < W.heap.size -> (∃ r, W.heap[w.heap.size + 1]? = some (.loop r)) -> Kp W (W.putObj (w.heap.size + 1) o))
  (hAb : ∀ A B, Ab A B -> w.heap.size + 1 < A.heap.size -> A.heap.size <= B.heap.size /\ B.heap[w.heap.size]? = A.heap[w.heap.size]? /\ B.heap[w.heap.size + 1]? = A.heap[w.heap.size + 1]?)
  (hps : ∀ x, (encs x).size = ps.size)
  (I : List α -> World -> Prop) (Ix : Code -> List α -> World -> Prop)
  (hI : ∀ s A A', I s A -> Ab A A' -> I s A') (hIx : ∀ c s A A', Ix c s A -> Ab A A' -> Ix c s A')
  (hIo : ∀ s A o, I s A -> w.heap.size + 1 < A.heap.size -> (∃ r, A.heap[w.heap.size + 1]? = some (.loop r)) -> I s (A.putObj (w.heap.size + 1) o)) (hIxo : ∀ c s A o, Ix c s A -> w.heap.size + 1 < A.heap.size -> (∃ r, A.heap[w.heap.size + 1]? = some (.loop r)) -> Ix c s (A.putObj (w.heap.size + 1) o))
  (h0 : ∀ r, I [] ((w.alloc (.deferred (some []))).alloc (.loop r)))
  (Ax : List α -> α -> Act -> World -> Prop) (hAx : ∀ pre x a' A o, Ax pre x a' A -> w.heap.size + 1 < A.heap.size -> Ax pre x a' (A.putObj (w.heap.size + 1) o))
  (hassign : ∀ (pre : List α) (x : α) (W : World) (K : Act -> World -> Prop), w.heap.size + 1 < W.heap.size -> I pre W -> Nx pre x W -> (∀ a' W', Keep 0 [w.heap.size, w.heap.size + 1] W W' -> Kp W W' -> I pre W' -> Ax pre x a' W' -> K a' W') ->
   assign.wpIn (Fence.wide.inRound (w.heap.size + 1)) 0 P (Exit.then K (fun _ _ _ => False)) { tmps := (ps.zip (encs x)).foldl (fun t (p, v) => t.setIfInBounds p v) a.tmps, defers := [] } W)
  (hbody : ∀ (pre : List α) (x : α) (a' : Act) (W : World), w.heap.size + 1 < W.heap.size -> I pre W -> Ax pre x a' W -> body.wpIn (Fence.wide.inRound (w.heap.size + 1)) 0 P (roundEnd w.heap.size Kp I Ix (pre ++ [x]) W) a' W)
  (hdone : ∀ (xs : List α) (W : World), S xs -> I xs W -> w.heap.size < W.heap.size -> W.heap[w.heap.size]? = some (.deferred (some [])) -> Q .normal { a with defers := { target := .collected w.heap.size, args := #[] } :: a.defers } W)
  (hstop : ∀ (c : Code) (pre : List α) (W : World), Sp pre -> Ix c pre W -> w.heap.size < W.heap.size -> W.heap[w.heap.size]? = some (.deferred (some [])) -> c.wp P Q { a with defers := { target := .collected w.heap.size, args := #[] } :: a.defers } W) :
  (Code.rangeFunc g ps assign body).wp P Q a w := by
 refine (wpIn_wide (n := 0)).1 (wpIn_rangeFunc ?_)
 intro fn hfn
 obtain ⟨rec, hrec⟩ : ∃ rec : LoopState -> Option Code -> Loop, rec = fun st pe => { state := st, pending := pe, fn, tmps := a.tmps, params := ps, assign, body, defers := w.heap.size } := ⟨_, rfl⟩
 obtain ⟨W1, hW1⟩ : ∃ W1, (w.alloc (.deferred (some []))).alloc (.loop (rec .ready none)) = W1 := ⟨_, rfl⟩
 have hL1 : W1.heap[w.heap.size + 1]? = some (.loop (rec .ready none)) := by
  rw [<- hW1]; have := World.alloc_heap_new (w.alloc (.deferred (some []))) (.loop (rec .ready none)); rwa [World.size_alloc] at this
 have hK1 : W1.heap[w.heap.size]? = some (.deferred (some [])) := by
  rw [<- hW1]; exact (Below.heap_alloc _ _ _ (by simp)).trans (World.alloc_heap_new w _)
 have hI1 : I [] W1 := by rw [<- hW1]; exact h0 _
 have hb1 : Below w.heap.size w W1 := by
  rw [<- hW1]; exact ((Below.refl _ w).alloc (Nat.le_refl _) _).alloc (by simp) _
 refine ⟨w.heap.size + 1, [{ target := .collected w.heap.size, args := #[] }], W1, { target := .fn (.func gf) lb, args := #[.func (.yield (w.heap.size + 1)) #[] #[]] }, W1, gf,
  #[.func (.yield (w.heap.size + 1)) #[] #[]] ++ lb, W1, ?_, ?_, fun _ _ => trivial, ?_, fun h => by simp [Fence.wide] at h, ?_⟩
 ·rw [<- hW1, hrec]; exact run_enterLoop_outer _ _ _ _ _
 ·simp only [resolve, hg]
  simp [go_sem]
 ·simp [invoke, go_sem, eg]
 ·refine (hseq (w.heap.size + 1)
   (fun pre W => I pre W /\ W.heap[w.heap.size + 1]? = some (.loop (rec .ready none)) /\ W.heap[w.heap.size]? = some (.deferred (some [])))
   (fun pre W => ∃ c, Ix c pre W /\ W.heap[w.heap.size + 1]? = some (.loop (rec .done (some c))) /\ W.heap[w.heap.size]? = some (.deferred (some [])))
   W1 hb1 (Nat.le_succ _)
   (fun s A B hs hab => by
    have hlt := (Array.getElem?_eq_some_iff.1 hs.2.1).1
    obtain ⟨_, h1, h2⟩ := hAb A B hab hlt
    exact ⟨hI s A B hs.1 hab, h2.trans hs.2.1, h1.trans hs.2.2⟩)
   (fun s A B hs hab => by
    obtain ⟨c, hc, hl, hk⟩ := hs
    have hlt := (Array.getElem?_eq_some_iff.1 hl).1
    obtain ⟨_, h1, h2⟩ := hAb A B hab hlt
    exact ⟨c, hIx c s A B hc hab, h2.trans hl, h1.trans hk⟩)
   ?_ ⟨hI1, hL1, hK1⟩).mono ?_
  ·rintro pre x W ⟨hi, hl, hk⟩ hnx
   have hlt : w.heap.size + 1 < W.heap.size := (Array.getElem?_eq_some_iff.1 hl).1
   have hy := run_yield (P := P) (args := encs x) hl (by rw [hrec]; exact hps x)
   rw [hrec] at hy
   refine ⟨fn, _, assign, body, hy, roundIn_of_wpIn hfn (hassign pre x W _ hlt hi hnx ?_)⟩
   clear hy;intro a' Wa hka hkpa hia hax
   have hla := (hka.keep _ (by simp : w.heap.size + 1 ∈ _)).trans hl
   have hda := (hka.keep _ (by simp : w.heap.size ∈ _)).trans hk
   have hlta : w.heap.size + 1 < Wa.heap.size := (Array.getElem?_eq_some_iff.1 hla).1
   refine ⟨_, run_beginRound hla (by rw [hrec]), ?_⟩
   have hl2 : (Wa.putObj (w.heap.size + 1) (.loop { rec .ready none with state := .busy })).heap[w.heap.size + 1]? = some (.loop { rec .ready none with state := .busy }) := World.putObj_heap_same hlta
   have hk2 : (Wa.putObj (w.heap.size + 1) (.loop { rec .ready none with state := .busy })).heap[w.heap.size]? = some (.deferred (some [])) := (World.putObj_heap_other (by omega)).trans hda
   refine wpIn_mono (hbody pre x a' _ (by simpa using hlta) (hIo _ _ _ hia hlta ⟨_, hla⟩) (hAx _ _ _ _ _ hax hlta)) ?_
   have fin : ∀ (jump : Option Code) (W3 : World), Keep 0 [w.heap.size, w.heap.size + 1] (Wa.putObj (w.heap.size + 1) (.loop { rec .ready none with state := .busy })) W3 ->
     (Instr.endRound (w.heap.size + 1) jump).run P W3 = .ok (.bool jump.isNone) (W3.putObj (w.heap.size + 1) (.loop (rec (if jump.isNone then .ready else .done) jump))) /\
     w.heap.size + 1 < W3.heap.size /\
     (W3.putObj (w.heap.size + 1) (.loop (rec (if jump.isNone then .ready else .done) jump))).heap[w.heap.size + 1]? = some (.loop (rec (if jump.isNone then .ready else .done) jump)) /\
     (W3.putObj (w.heap.size + 1) (.loop (rec (if jump.isNone then .ready else .done) jump))).heap[w.heap.size]? = some (.deferred (some [])) := fun jump W3 hk3 => by
    have hl3 := (hk3.keep _ (by simp : w.heap.size + 1 ∈ _)).trans hl2
    have := run_endRound (P := P) jump hl3
    rw [hrec] at this ⊢
    have h4 := (Array.getElem?_eq_some_iff.1 hl3).1
    exact ⟨this, h4, World.putObj_heap_same h4, (World.putObj_heap_other (by omega)).trans ((hk3.keep _ (by simp : w.heap.size ∈ _)).trans hk2)⟩
   rintro e a3 W3 hp
   cases e with
   | normal =>
    obtain ⟨hk3, hkp3, hi3⟩ := hp
    obtain ⟨hr, hl3, hl4, hk4⟩ := fin none W3 hk3
    exact ⟨_, _, hr, .inl ⟨rfl, ⟨hIo _ _ _ hi3 hl3 ⟨_, (hk3.keep _ (by simp : w.heap.size + 1 ∈ _)).trans hl2⟩, hl4, hk4⟩, hKt hkpa (hKt (hKt (hKb _ _ hlta ⟨_, hla⟩) hkp3) (hKb _ _ hl3 ⟨_, (hk3.keep _ (by simp : w.heap.size + 1 ∈ _)).trans hl2⟩))⟩⟩
   | ret =>
    obtain ⟨hk3, hi3⟩ := hp
    obtain ⟨hr, hl3, hl4, hk4⟩ := fin (some .ret) W3 hk3
    exact ⟨_, _, hr, .inr ⟨rfl, .ret, hIxo _ _ _ _ hi3 hl3 ⟨_, (hk3.keep _ (by simp : w.heap.size + 1 ∈ _)).trans hl2⟩, hl4, hk4⟩⟩
   | exit id =>
    obtain ⟨hk3, hi3⟩ := hp
    obtain ⟨hr, hl3, hl4, hk4⟩ := fin (some (.exit id)) W3 hk3
    exact ⟨_, _, hr, .inr ⟨rfl, .exit id, hIxo _ _ _ _ hi3 hl3 ⟨_, (hk3.keep _ (by simp : w.heap.size + 1 ∈ _)).trans hl2⟩, hl4, hk4⟩⟩
   | goto t =>
    obtain ⟨hk3, hi3⟩ := hp
    obtain ⟨hr, hl3, hl4, hk4⟩ := fin (some (.goto t)) W3 hk3
    exact ⟨_, _, hr, .inr ⟨rfl, .goto t, hIxo _ _ _ _ hi3 hl3 ⟨_, (hk3.keep _ (by simp : w.heap.size + 1 ∈ _)).trans hl2⟩, hl4, hk4⟩⟩
   | panic ch => exact hp.elim
   | outgrown => exact hp.elim
  ·rintro e W2 ⟨⟨v, rfl⟩, (⟨xs, hS, hi, hl, hk⟩ | ⟨pre, hSp, c, hi, hl, hk⟩)⟩
   ·have h4 := (Array.getElem?_eq_some_iff.1 hl).1
    exact ⟨none, _, by have := run_endLoop (P := P) hl (by rw [hrec]; simp); rw [hrec] at this; exact this, hdone xs _ hS (hIo _ _ _ hi h4 ⟨_, hl⟩) (by simp; omega) ((World.putObj_heap_other (by omega)).trans hk)⟩
   ·have h4 := (Array.getElem?_eq_some_iff.1 hl).1
    exact ⟨some c, _, by have := run_endLoop (P := P) hl (by rw [hrec]; simp); rw [hrec] at this; exact this, wpIn_wide.2 (hstop c pre _ hSp (hIxo _ _ _ _ hi h4 ⟨_, hl⟩) (by simp; omega) ((World.putObj_heap_other (by omega)).trans hk))⟩
end
section
open Go.RowKit Go.Shelf Go.Sort
attribute [local go_sem] Oper.semAt_some
def subC (cl : List UInt8) (p : List UInt8 × Int) : List Value := [wStr p.1, wStr cl, .int .i64 p.2]
structure WaI (w : World) (p : Nat) (cl : List UInt8) (pre : WL) (W : World) : Prop where
 box : Boxed W w.heap.size 55 (.pointer (some ⟨p, 0, none⟩))
 box2 : Boxed W (w.heap.size + 2) 55 (.pointer (some ⟨p, 0, none⟩))
 below : Below w.heap.size w W
 out : ∃ v, Boxed W (w.heap.size + 1) 87 v /\ W.ownsRow (w.heap.size + 5) 90 3 v pre.length (pre.flatMap (subC cl))
theorem WaI.wrote {w : World} {p : Nat} {cl : List UInt8} {pre : WL} {A A' : World} {M : List Nat} (h : WaI w p cl pre A) (hw : Wrote M A A') (hM : ∀ x ∈ M, w.heap.size + 3 <= x /\ x < w.heap.size + 5) : WaI w p cl pre A' := by
 obtain ⟨v, h1, h2⟩ := h.out
 refine ⟨hw.boxed (fun hx => by have := (hM _ hx).1; omega) h.box, hw.boxed (fun hx => by have := (hM _ hx).1; omega) h.box2, h.below.trans (hw.below h.below.size (fun x hx => by have := (hM x hx).1; omega)), v, hw.boxed (fun hx => by have := (hM _ hx).1; omega) h1, not_own h2 hw (fun x hx hb => by have := (hM x hx).2; have := (h2.lt x (mem_blk.1 hb)).1; omega)⟩
theorem KpS.of_wrote {L M : List Nat} {a b : World} (hw : Wrote M a b) (hM : ∀ x ∈ M, x ∉ L /\ ∀ cs f, a.heap[x]? ≠ some (.cells cs 9 f)) (hL : ∀ k ∈ L, k < a.heap.size) : KpS L a b :=
 ⟨hw.size, fun k hk => hw.block k (hL k hk) (fun h => (hM k h).1 hk), fun k cs f hk => (hw.block k (Array.getElem?_eq_some_iff.1 hk).1 (fun h => (hM k h).2 cs f hk)).trans hk⟩
theorem row_cells {W : World} {base e size n : Nat} {v : Value} {xs : List Value} (hr : W.ownsRow base e size v n xs) {b : Nat} (hb : b ∈ blk v) : ∃ cur, W.heap[b]? = some (.cells cur e (0, 0)) := by
 obtain ⟨_, ⟨rfl, _⟩ | ⟨g, cap, cur, rfl, _, hg, _⟩⟩ := hr
 ·simp [blk, Value.ownBlock] at hb
 ·simp [blk, Value.ownBlock] at hb
  subst hb;exact ⟨cur, hg⟩
theorem KpS.refl (L : List Nat) (w : World) : KpS L w w := ⟨Nat.le_refl _, fun _ _ => rfl, fun _ _ _ h => h⟩
end
section
structure XT (w : World) (B : Nat) (S : XLay) (x : XS) : Prop where
 box : Blk w S.p (S.cells x) 132
 ob : OB w B S.o x.o [] []
 inb : Inb w S.ib S.sb x.most S.W
 set : SetIs S.W x.ids
 wm : WM w S.m x.wants
 ok : x.OK
theorem XB.told {w : World} {B : Nat} {S : XLay} {x : XS} (h : XB w B S x) : XT w B S x := ⟨h.box, h.ob, h.inb, h.set, h.wm, h.ok⟩
def XLay.seen (S : XLay) : List Nat := S.p :: S.ib :: S.sb :: S.m :: S.o.foot
theorem XT.out {w w' : World} {B : Nat} {S : XLay} {x : XS} (h : XT w B S x) {M : List Nat} (hw : Wrote M w w') (hM : ∀ b ∈ M, b ∉ S.seen) (hg : 1 ∉ M) : XT w' B S x := by
 have k : ∀ b ∈ S.seen, b < w.heap.size -> w'.heap[b]? = w.heap[b]? := fun b hb hl => hw.block b hl (fun hm => hM b hm hb)
 exact ⟨h.box.keep (k _ (by simp [XLay.seen]) h.box.lt), h.ob.out hw (fun b hb hf => hM b hb (by simp [XLay.seen, hf])) hg, ⟨h.inb.box.keep (k _ (by simp [XLay.seen]) h.inb.box.lt), h.inb.set.keep (k _ (by simp [XLay.seen]) h.inb.set.lt)⟩, h.set, h.wm.keep (k _ (by simp [XLay.seen]) h.wm.lt), h.ok⟩
theorem XT.below {w w' : World} {B : Nat} {S : XLay} {x : XS} (h : XT w B S x) (hb : Below w.heap.size w w') : XT w' B S x := h.out (Wrote.of_below (M := []) hb) (by simp) (by simp)
theorem XT.alloc {w : World} {B : Nat} {S : XLay} {x : XS} (h : XT w B S x) (o : Obj) : XT (w.alloc o) B S x := h.below ((Below.refl _ _).alloc (Nat.le_refl _) o)
theorem XT.drew {w : World} {B : Nat} {S : XLay} {x : XS} (h : XT w B S x) : XT w.drew B S x := h.below (Below.refl _ w).drew
theorem XT.lt {w : World} {B : Nat} {S : XLay} {x : XS} (h : XT w B S x) : ∀ b ∈ S.seen, b < w.heap.size := by
 intro b hb
 simp only [XLay.seen, List.mem_cons] at hb
 rcases hb with rfl | rfl | rfl | rfl | hb
 ·exact h.box.lt
 ·exact h.inb.box.lt
 ·exact h.inb.set.lt
 ·exact h.wm.lt
 ·exact h.ob.lt b hb
theorem sesT_none {w : World} {B : Nat} {S : XLay} {x : XS} (h : XT w B S x) :
  Calls Tryz.prog 60 #[.pointer (some ⟨S.p, 0, none⟩)] w fun e w' => e = .returned (.bool false) /\ w = w' := by
 have k0 : w.cell? ⟨S.p, 0, none⟩ = some (.pointer (some ⟨S.o.p, 0, none⟩)) := h.box.cell 0
 go_enter Tryz.func60, Tryz.ntmps60
 go_wp2
 go_ret
 exact ⟨rfl, rfl⟩
theorem sesT_Client {w : World} {B : Nat} {S : XLay} {x : XS} (h : XT w B S x) :
  Calls Tryz.prog 62 #[.pointer (some ⟨S.p, 0, none⟩)] w fun e w' => e = .returned (.string ⟨x.o.client.toArray⟩) /\ Below w.heap.size w w' := by
 have k0 : w.cell? ⟨S.p, 0, none⟩ = some (.pointer (some ⟨S.o.p, 0, none⟩)) := h.box.cell 0
 have CN := hid (sesT_none h)
 have CS := out_Session h.ob
 have hfl : ∀ W, (Instr.field 33 (.agg x.o.session.vals) 1).run Tryz.prog W = .ok (.string ⟨x.o.client.toArray⟩) W := fun W => by kernel_rfl
 unfold RowV.vals OS.session at hfl
 unfold RowV.vals OS.session at CS
 replace CS := hid CS;go_enter Tryz.func62, Tryz.ntmps62
 go_wp2_with (first
  | (go_at_call 60; refine CN.out.mono ?_; rintro e w1 ⟨rfl, rfl⟩)
  | (go_at_call 14; refine CS.out.mono ?_; rintro e w1 ⟨rfl, hb⟩))
 go_ret
 exact ⟨rfl, hb⟩
theorem sesT_sub {w : World} {B : Nat} {S : XLay} {x : XS} (h : XT w B S x) (filter : List UInt8) (qos : Int) :
  Calls Tryz.prog 65 #[.pointer (some ⟨S.p, 0, none⟩), .string ⟨filter.toArray⟩, .int .i64 qos] w fun e w' => e = .returned (.agg (x.sub filter qos).vals) /\ Below w.heap.size w w' := by
 have CC := hid fun o => sesT_Client (h.alloc o)
 unfold RowV.vals XS.sub
 go_enter Tryz.func65, Tryz.ntmps65
 go_wp2_with (first
  | (go_at_call 62; refine (CC.out _).mono ?_; rintro e w1 ⟨rfl, hb⟩; have D0 := hid ((Blk.new w #[.int .i64 0, .string ⟨#[]⟩, .int .i64 0, .int .i64 0, .string ⟨#[]⟩, .string ⟨#[]⟩, .int .i64 0, .bool false, .int .i64 0] 33).below hb))
  | (refine wS 33 9 rfl w.heap.size _ #[.int .i64 2,.string ⟨x.o.client.toArray⟩,.int .i64 0,.int .i64 0,.string ⟨filter.toArray⟩,.string ⟨#[]⟩,.int .i64 qos,.bool false,.int .i64 0] rfl rfl D0.out rfl rfl (by simp [Value.oneCell']) ?_; intro w2 hb2 hw2))
 refine bodyPost_ret (results_cell1 Tryz.results65 rfl (run_loadVar_blk hb2 33 Tryz.underlying33 rfl (by kernel_rfl))) rfl ?_
 exact ⟨rfl, (((Below.refl _ w).alloc (Nat.le_refl _) _).trans (hb.mono (by simp))).trans (hw2.below (by have := hb.size; simp at this; omega) (by simp))⟩
theorem sesT_in {w : World} {B : Nat} {S : XLay} {x : XS} (h : XT w B S x) (id : Int) :
  Calls Tryz.prog 72 #[.pointer (some ⟨S.p, 0, none⟩), .int .i64 id] w fun e w' => e = .returned (.agg (x.inr id).vals) /\ Below w.heap.size w w' := by
 have CC := hid fun o => sesT_Client (h.alloc o)
 unfold RowV.vals XS.inr
 go_enter Tryz.func72, Tryz.ntmps72
 go_wp2_with (first
  | (go_at_call 62; refine (CC.out _).mono ?_; rintro e w1 ⟨rfl, hb⟩; have D0 := hid ((Blk.new w #[.int .i64 0, .string ⟨#[]⟩, .int .i64 0, .int .i64 0, .string ⟨#[]⟩, .string ⟨#[]⟩, .int .i64 0, .bool false, .int .i64 0] 33).below hb))
  | (refine wS 33 9 rfl w.heap.size _ #[.int .i64 4,.string ⟨x.o.client.toArray⟩,.int .i64 0,.int .i64 id,.string ⟨#[]⟩,.string ⟨#[]⟩,.int .i64 0,.bool false,.int .i64 0] rfl rfl D0.out rfl rfl (by simp [Value.oneCell']) ?_; intro w2 hb2 hw2))
 refine bodyPost_ret (results_cell1 Tryz.results72 rfl (run_loadVar_blk hb2 33 Tryz.underlying33 rfl (by kernel_rfl))) rfl ?_
 exact ⟨rfl, (((Below.refl _ w).alloc (Nat.le_refl _) _).trans (hb.mono (by simp))).trans (hw2.below (by have := hb.size; simp at this; omega) (by simp))⟩
end
end Go.Proofs.YtoinabapaeebfaaGreatDoor
