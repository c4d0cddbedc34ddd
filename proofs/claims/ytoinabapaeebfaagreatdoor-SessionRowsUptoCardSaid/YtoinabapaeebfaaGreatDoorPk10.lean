/- Parts of the proof of SessionRows: contracts of functions that it reaches, and plain lemmas. No condition of their own. -/
import Derived.Test.YtoinabapaeebfaaGreatDoorPk09
set_option linter.unusedSimpArgs false
set_option linter.unusedVariables false
set_option maxRecDepth 100000
set_option maxHeartbeats 8000000
namespace Go.Proofs.YtoinabapaeebfaaGreatDoor
open Go.RowKit Go.Shelf
section
def RowV.sent (r : RowV) (y : Int) : RowV := { r with id := y, stage := 2 }
structure SS where
 s : OS
 ps : List PackV
 cs : List ChangeV
def SS.send (x : SS) (i : Nat) : SS :=
 if x.s.window <= (idsOf x.s.l).length then x else
 match x.s.l[i]? with
 | none => x
 | some r =>
  let y := firstI (idsOf x.s.l).length x.s.id (idsOf x.s.l)
  ⟨{ x.s with l := x.s.l.set i (r.sent y), id := y % 65535 + 1 }, x.ps ++ [(r.sent y).pub false], x.cs ++ [⟨false, r.sent y⟩]⟩
def SS.sends (x : SS) (q : List Nat) : SS := q.foldl SS.send x
theorem SS.sends_snoc (x : SS) (q : List Nat) (i : Nat) : x.sends (q ++ [i]) = (x.sends q).send i := by simp [SS.sends]
theorem SS.send_full (x : SS) (i : Nat) (h : x.s.window <= (idsOf x.s.l).length) : x.send i = x := by unfold SS.send; rw [if_pos h]
theorem SS.sends_full (x : SS) (q : List Nat) (h : x.s.window <= (idsOf x.s.l).length) : x.sends q = x := by
 induction q with
 | nil => rfl
 | cons i q ih =>
  show (x.send i).sends q = x
  rw [SS.send_full x i h]; exact ih
theorem SS.send_other (x : SS) (i j : Nat) (h : j ≠ i) : (x.send i).s.l[j]? = x.s.l[j]? := by
 unfold SS.send
 split
 ·rfl
 ·split
  ·rfl
  ·simp [List.getElem?_set_ne (Ne.symm h)]
theorem SS.sends_other (x : SS) (q : List Nat) (j : Nat) (h : ∀ i ∈ q, j ≠ i) : (x.sends q).s.l[j]? = x.s.l[j]? := by
 induction q generalizing x with
 | nil => rfl
 | cons i q ih =>
  show ((x.send i).sends q).s.l[j]? = _
  rw [ih (x.send i) (fun k hk => h k (by simp [hk])), SS.send_other x i j (h i (by simp))]
structure SS.Alike (x y : SS) : Prop where
 len : y.s.l.length = x.s.l.length
 client : y.s.client = x.s.client
 window : y.s.window = x.s.window
 room : y.s.room = x.s.room
 seq : y.s.seq = x.s.seq
 packs : y.ps.length <= x.ps.length + 1
 chgs : y.cs.length <= x.cs.length + 1
theorem SS.send_alike (x : SS) (i : Nat) : x.Alike (x.send i) := by
 unfold SS.send
 split
 ·exact ⟨rfl, rfl, rfl, rfl, rfl, by omega, by omega⟩
 ·split
  ·exact ⟨rfl, rfl, rfl, rfl, rfl, by omega, by omega⟩
  ·exact ⟨by simp, rfl, rfl, rfl, rfl, by simp, by simp⟩
theorem ids_set (l : List RowV) (i : Nat) (r r' : RowV) (h : l[i]? = some r) (h1 : r.stage = 1) (h2 : r'.stage ≠ 1) : (r'.id.toNat :: idsOf l).Perm (idsOf (l.set i r')) := by
 induction l generalizing i with
 | nil => simp at h
 | cons x l ih =>
  cases i with
  | zero =>
   simp at h
   subst h;simp [idsOf, h1, h2]
  | succ i =>
   simp at h
   have := ih i h
   by_cases hx : x.stage = 1
   ·simpa [idsOf, hx] using this
   ·have e1 : idsOf (x :: l) = x.id.toNat :: idsOf l := by simp [idsOf, hx]
    have e2 : idsOf ((x :: l).set (i + 1) r') = x.id.toNat :: idsOf (l.set i r') := by simp [idsOf, hx]
    rw [e1, e2]
    exact (List.Perm.swap _ _ _).trans (this.cons _)
theorem OB.sent {w w' : World} {B : Nat} {L : Lay} {s : OS} {ps : List PackV} {cs : List ChangeV} (h : OB w B L s ps cs) (i b : Nat) (r : RowV) (hb : L.rb[i]? = some b) (hr : s.l[i]? = some r) (hs : r.stage = 1) (y : Int) (hy : 1 <= y /\ y <= 65535)
  (hnot : y.toNat ∉ idsOf s.l) (hund : ((idsOf s.l).length : Int) < s.window) (hw : Wrote [b, L.sb] w w') (hbl : Blk w' b (r.sent y).vals 33) (hin : Inb w' L.ib L.sb 100 (tog L.W y.toNat)) :
  OB w' B { L with W := tog L.W y.toNat } { s with l := s.l.set i (r.sent y) } ps cs := by
 have hrow := h.cells i b r hb hr
 have hperm := ids_set s.l i r (r.sent y) hr hs (by simp [RowV.sent])
 have hn : ∀ {T : TypeId} {x : Nat} {c : Array Value}, Blk w x c T -> T ≠ 33 -> T ≠ 181 -> x ∉ [b, L.sb] := fun hx h1 h2 hm => by
  simp at hm
  rcases hm with hm | hm
  ·exact (hx.ne hrow h1) hm
  ·exact (hx.ne h.inb.set h2) hm
 have hrw : ∀ {base : Nat} {e : TypeId} {size : Nat} {v : Value} {n : Nat} {xs : List Value}, w.ownsRow base e size v n xs -> e ≠ 33 -> e ≠ 181 -> w'.ownsRow base e size v n xs := fun hx h1 h2 => not_own hx hw fun x hm hbk => by
  simp at hm
  rcases hm with rfl | rfl
  ·exact block_not_row hrow (Ne.symm h1) hx (mem_blk.1 hbk).symm
  ·exact block_not_row h.inb.set (Ne.symm h2) hx (mem_blk.1 hbk).symm
 have hbf : b ∈ L.foot := by simp [Lay.foot, List.mem_of_getElem? hb]
 refine ⟨Nat.le_trans h.base hw.size, h.box.wrote hw (hn h.box (by decide) (by decide)), hin, (h.set.come (by omega) hnot).perm hperm, ?_, ?_, ?_, h.nodup, hrw h.packs (by decide) (by decide), hrw h.chgs (by decide) (by decide), h.tz.wrote hw ?_, h.gg, ?_⟩
 ·have := hrw h.rows (by decide) (by decide)
  simpa using this
 ·simpa using h.len
 ·intro j b' r' h1 h2
  dsimp only at h1 h2
  by_cases e : j = i
  ·subst e
   rw [hb] at h1
   cases h1
   have hlt := (List.getElem?_eq_some_iff.1 hr).1
   rw [List.getElem?_set_self hlt] at h2
   cases h2
   exact hbl
  ·rw [List.getElem?_set_ne (Ne.symm e)] at h2
   have hc := h.cells j b' r' h1 h2
   refine hc.wrote hw fun hm => ?_
   simp at hm
   rcases hm with rfl | hm
   ·have hlt1 := (List.getElem?_eq_some_iff.1 h1).1
    exact e ((List.getElem?_inj hlt1 h.nodup).1 (h1.trans hb.symm))
   ·exact (hc.ne h.inb.set (by decide)) hm
 ·intro hm
  simp at hm
  rcases hm with hm | hm
  ·exact h.gg (hm ▸ hbf)
  ·exact h.gg (by simp [Lay.foot, hm])
 ·have hok := h.ok
  refine ⟨hok.win, by simpa using hok.room, hok.seq, hok.id, hok.cl, ?_, hperm.nodup_iff.1 (List.nodup_cons.2 ⟨hnot, hok.nodup⟩), ?_⟩
  ·intro x hx hst
   rcases List.mem_or_eq_of_mem_set hx with hx | hx
   ·exact hok.ids x hx hst
   ·subst hx; exact hy
  ·have := hperm.length_eq
   simp only [List.length_cons] at this
   show ((idsOf (s.l.set i (r.sent y))).length : Int) <= s.window
   omega
end
section
attribute [local go_sem] Oper.semAt_some
theorem rowLoad {w : World} {b : Nat} {r : RowV} (h : Blk w b r.vals 33) : (Instr.loadAt 33 (.pointer (some ⟨b, 0, none⟩))).run Tryz.prog w = .ok (.agg r.vals) w := by
 have := run_loadVar_row (P := Tryz.prog) w b 33 33 r.vals (0, 0) _ h Tryz.underlying33 rfl (by kernel_rfl)
 simp [Instr.loadAt, Instr.sureAddr, this]
theorem end_mark {P : Program} {fn : Func} {tmps : Array Value} {R : Ending -> World -> Prop} {D : Nat} {w : World} (hK : w.heap[D]? = some (.deferred (some [])))
  (h1 : (results fn tmps).run P (w.putObj D (.deferred none)) = .ok (.tuple #[]) (w.putObj D (.deferred none)))
  (hres : ∀ w', w' = w.putObj D (.deferred none) -> R (.returned (.tuple #[])) w') :
  bodyPostM Fence.wide 0 P fn R .normal { tmps := tmps, defers := [{ target := .collected D, args := #[] }] } w :=
 ⟨by simp, .inl ⟨_, _, rfl, run_takeDeferred hK, ⟨_, h1, hres _ rfl⟩⟩⟩
theorem end_mark2 {P : Program} {fn : Func} {tmps : Array Value} {R : Ending -> World -> Prop} {D : Nat} {w : World} (hK : w.heap[D]? = some (.deferred (some [])))
  (h1 : (results fn tmps).run P (w.putObj D (.deferred none)) = .ok (.tuple #[]) (w.putObj D (.deferred none)))
  (hres : ∀ w', w' = w.putObj D (.deferred none) -> R (.returned (.tuple #[])) w') :
  bodyPostM Fence.wide 0 P fn R .ret { tmps := tmps, defers := [{ target := .collected D, args := #[] }] } w :=
 ⟨by simp, .inl ⟨_, _, rfl, run_takeDeferred hK, ⟨_, h1, hres _ rfl⟩⟩⟩
theorem wpIn_gen {F : Fence} {n : Nat} {P : Program} {code : Code} {Q : Exit -> Act -> World -> Prop} {a : Act} {W : World} (C : World -> Prop) (hC : C W) (h : ∀ W', C W' -> code.wpIn F n P Q a W') : code.wpIn F n P Q a W := h W hC
structure SInv (w0 : World) (B : Nat) (L : Lay) (x0 : SS) (c c2 : Nat) (pre : List Nat) (W : World) : Prop where
 ob : ∃ vp vc V, OB W B { L with vp := vp, vc := vc, W := V } (x0.sends pre).s (x0.sends pre).ps (x0.sends pre).cs /\ (∀ x ∈ ({ L with vp := vp, vc := vc, W := V } : Lay).foot, x ∈ L.foot \/ w0.heap.size + 2 <= x)
 wrote : Wrote L.foot w0 W
 box : Boxed W c 26 (.pointer (some ⟨L.p, 0, none⟩))
 box2 : Boxed W c2 26 (.pointer (some ⟨L.p, 0, none⟩))
theorem SInv.out {w0 : World} {B : Nat} {L : Lay} {x0 : SS} {c c2 : Nat} {pre : List Nat} {W W' : World} (h : SInv w0 B L x0 c c2 pre W) {M : List Nat} (hw : Wrote M W W') (hM : ∀ x ∈ M, x ∉ L.foot /\ x < w0.heap.size + 2 /\ w0.heap.size <= x) (hc : c < w0.heap.size) (hc2 : c2 < w0.heap.size) (hgg : 1 < w0.heap.size) : SInv w0 B L x0 c c2 pre W' := by
 obtain ⟨vp, vc, V, hO, hs⟩ := h.ob
 refine ⟨⟨vp, vc, V, hO.out hw (fun x hx hf => ?_) (fun hm => by have := (hM _ hm).2.2; omega), hs⟩, ⟨hw.os.trans h.wrote.os, hw.tape.trans h.wrote.tape, hw.output.trans h.wrote.output, Nat.le_trans h.wrote.size hw.size, fun i hi hm => (hw.block i (Nat.lt_of_lt_of_le hi h.wrote.size) (fun hx => by have := (hM i hx).2.2; omega)).trans (h.wrote.block i hi hm)⟩, hw.boxed (fun hm => by have := (hM _ hm).2.2; omega) h.box, hw.boxed (fun hm => by have := (hM _ hm).2.2; omega) h.box2⟩
 have h1 := hM x hx
 rcases hs x hf with h2 | h2
 ·exact h1.1 h2
 ·omega
theorem sends_len (x : SS) (q : List Nat) : (x.sends q).ps.length <= x.ps.length + q.length /\ (x.sends q).cs.length <= x.cs.length + q.length /\ (x.sends q).s.l.length = x.s.l.length := by
 induction q generalizing x with
 | nil => simp [SS.sends]
 | cons i q ih =>
  have h1 := ih (x.send i)
  have h2 := SS.send_alike x i
  have h3 := h2.packs
  have h4 := h2.chgs
  have h5 := h2.len
  refine ⟨?_, ?_, ?_⟩
  ·show ((x.send i).sends q).ps.length <= _
   simp only [List.length_cons]; omega
  ·show ((x.send i).sends q).cs.length <= _
   simp only [List.length_cons]; omega
  ·show ((x.send i).sends q).s.l.length = _
   omega
def stOf (l : List RowV) (i : Nat) : Int := (l[i]?.map (·.stage)).getD 0
def SS.all (x : SS) : SS := x.sends (waitQ (stOf x.s.l) x.s.l.length)
theorem out_send {w : World} {B : Nat} {L : Lay} {x0 : SS} (h : OB w B L x0.s x0.ps x0.cs) (hps : x0.ps.length <= 1000) (hcs : x0.cs.length <= 1000) :
  Calls Tryz.prog 88 #[.pointer (some ⟨L.p, 0, none⟩)] w fun e w' => e = .returned (.tuple #[]) /\ ∃ vp vc V, OB w' B { L with vp := vp, vc := vc, W := V } x0.all.s x0.all.ps x0.all.cs /\ Stp L.foot { L with vp := vp, vc := vc, W := V : Lay }.foot w w' := by
 refine calls_marks Tryz.func88 rfl ?_
 simp only [Tryz.ntmps88, List.size_toArray, List.length_cons, List.length_nil, Nat.reduceAdd, Nat.reduceSub, Array.replicate_succ, Array.replicate_zero, List.push_toArray, List.append_toArray, List.nil_append, List.cons_append]
 go_wp2_with fail
 refine (out_waits _ _).mono ?_
 rintro e w' ⟨rfl, rfl⟩
 go_wp2_with fail
 obtain ⟨c, hc⟩ : ∃ c, w.heap.size = c := ⟨_, rfl⟩
 generalize hW0 : ((w.alloc (Obj.cells #[.pointer (some ⟨L.p, 0, none⟩)] 26)).alloc (Obj.cells #[.pointer (some ⟨L.p, 0, none⟩)] 26)) = W0
 have hsz : W0.heap.size = c + 2 := by rw [<- hW0]; simp [hc]
 have hb0 : Below w.heap.size w W0 := by
  rw [<- hW0]
  exact ((Below.refl _ w).alloc (Nat.le_refl _) _).alloc (by simp) _
 have hbx : Boxed W0 c 26 (.pointer (some ⟨L.p, 0, none⟩)) /\ Boxed W0 (c + 1) 26 (.pointer (some ⟨L.p, 0, none⟩)) := by
  have e1 := Boxed.new w 26 (.pointer (some ⟨L.p, 0, none⟩))
  have e2 := Boxed.new (w.alloc (Obj.cells #[.pointer (some ⟨L.p, 0, none⟩)] 26)) 26 (.pointer (some ⟨L.p, 0, none⟩))
  simp only [World.size_alloc, hc] at e1 e2
  rw [<- hW0]
  exact ⟨e1.alloc _, e2⟩
 have HW0 := hid hW0; clear hW0
 have hgg : 1 < W0.heap.size := by have := h.tz.lt; have := hb0.size; omega
 have hok := h.ok
 have hlen := h.len
 have hroom : x0.s.l.length <= 1000 := by have := hok.room; omega
 have hfo : ∀ x ∈ L.foot, x < c := fun x hx => by have := h.lt x hx; omega
 simp only [hc]
 have hI0 : SInv W0 B L x0 c (c + 1) [] W0 := ⟨⟨L.vp, L.vc, L.W, h.below hb0, fun x hx => .inl hx⟩, Wrote.refl _ _, hbx.1, hbx.2⟩
 have hstep : ∀ {pre : List Nat} {A A' : World} {M : List Nat}, SInv W0 B L x0 c (c + 1) pre A -> Wrote M A A' -> (∀ x ∈ M, x = W0.heap.size \/ x = W0.heap.size + 1) -> SInv W0 B L x0 c (c + 1) pre A' := fun hi hw hM =>
  hi.out hw (fun x hx => by rcases hM x hx with rfl | rfl <;> exact ⟨fun hf => by have := hfo _ hf; omega, by omega, by omega⟩) (by omega) (by omega) hgg
 refine wp_rangeJ (α := Nat) (gf := 195) (lb := #[.pointer (some ⟨c + 1, 0, none⟩)]) rfl (enters_of Tryz.func195 (by kernel_rfl) rfl)
  (out_waits1 L.p (c + 1) L.vl L.rb (stOf x0.s.l) W0 (by omega)) ?hAb (fun _ => rfl) (SInv W0 B L x0 c (c + 1))
  (fun code xs W => code = .ret /\ ∃ pre x, xs = pre ++ [x] /\ SInv W0 B L x0 c (c + 1) pre W /\ (x0.sends pre).s.window <= (idsOf (x0.sends pre).s.l).length) ?hInv ?hI ?hIx ?hIo ?hIxo ?h0
  (fun pre x a' W => (∃ rest, waitQ (stOf x0.s.l) L.rb.length = pre ++ x :: rest) /\ a' = { tmps := #[.pointer (some ⟨L.p, 0, none⟩), .pointer (some ⟨c, 0, none⟩), .pointer (some ⟨L.rb[x]?.getD 0, 0, none⟩), .pointer (some ⟨L.p, 0, none⟩), .func (.func 195) #[] #[.pointer (some ⟨c + 1, 0, none⟩)], .pointer (some ⟨L.rb[x]?.getD 0, 0, none⟩), undef, undef, undef, undef, undef, undef, undef, undef, undef, undef, undef, undef, undef, undef, undef, undef, undef, undef, undef, undef, undef, undef, undef, undef, undef, undef, undef, undef, undef, undef, undef, undef, undef, undef, undef, undef, undef, undef, undef, undef, undef, undef, undef, undef, undef, undef, undef, undef, undef, undef, undef], defers := [] }) ?hAx ?assign ?body ?done ?stop
 case hAb => exact fun A A' hw hl => ⟨hw.size, hw.block _ (by omega) (by simp), hw.block _ hl (by simp)⟩
 case hInv =>
  intro pre A hi
  obtain ⟨vp, vc, V, hO, hs⟩ := hi.ob
  refine ⟨hi.box2, hO.box.cell 6, ?_, ?_⟩
  ·have := hO.rows
   rw [hO.len]
   exact this
  ·intro i b hb hpre
   have h1 := SS.sends_other x0 pre i (fun j hj => by have := hpre j hj; omega)
   have hlt := (List.getElem?_eq_some_iff.1 hb).1
   have h2 : x0.s.l[i]? = some (x0.s.l[i]'(by omega)) := List.getElem?_eq_getElem _
   have := hO.cells i b _ hb (h1.trans h2)
   have := this.cell 8
   rw [this]
   simp [stOf, h2, RowV.vals]
 case hI => exact fun s A A' hi hw => hstep hi hw (by simp)
 case hIx => exact fun c' s A A' hi hw => ⟨hi.1, let ⟨pre, x, h1, h2, h3⟩ := hi.2; ⟨pre, x, h1, hstep h2 hw (by simp), h3⟩⟩
 case hIo => exact fun s A o hi hl => hstep hi (Wrote.putObj (M := [W0.heap.size + 1]) A _ (by simp) o) (by simp)
 case hIxo => exact fun c' s A o hi hl => ⟨hi.1, let ⟨pre, x, h1, h2, h3⟩ := hi.2; ⟨pre, x, h1, hstep h2 (Wrote.putObj (M := [W0.heap.size + 1]) A _ (by simp) o) (by simp), h3⟩⟩
 case h0 => exact fun r => hstep hI0 (Wrote.of_below (M := []) (((Below.refl _ W0).alloc (Nat.le_refl _) _).alloc (by simp) _)) (by simp)
 case hAx =>
  rintro pre x a' A o ⟨hx, rfl⟩ hl
  exact ⟨hx, rfl⟩
 case assign =>
  intro pre x W K hl hi hx hK
  simp only [encW]
  gi_wp2
  exact hK _ _ (Keep.refl _ _ _) hi ⟨hx, rfl⟩
 case body =>
  rintro pre x a' W hl hi ⟨⟨rest, hq⟩, rfl⟩
  obtain ⟨vp, vc, V, hO, hs⟩ := hi.ob
  have hlens := sends_len x0 pre
  have hxm : x ∈ waitQ (stOf x0.s.l) L.rb.length := by rw [hq]; simp
  have hxn : ∀ j ∈ pre, x ≠ j := by
   have hnd : (waitQ (stOf x0.s.l) L.rb.length).Nodup := List.Pairwise.filter _ (List.nodup_iff_pairwise_ne.1 List.nodup_range)
   rw [hq, List.nodup_append] at hnd
   exact fun j hj e => hnd.2.2 j hj x (by simp) e.symm
  simp only [waitQ, List.mem_filter, List.mem_range, decide_eq_true_eq] at hxm
  obtain ⟨hxl, hxs⟩ := hxm
  have hprel : pre.length <= 1000 := by
   have h1 := congrArg List.length hq
   have h2 : (waitQ (stOf x0.s.l) L.rb.length).length <= L.rb.length := by simpa [waitQ] using List.length_filter_le (fun i => decide (stOf x0.s.l i = 1)) (List.range L.rb.length)
   simp at h1
   omega
  obtain ⟨b, hb⟩ : ∃ b, L.rb[x]? = some b := ⟨_, List.getElem?_eq_getElem hxl⟩
  have h1 := SS.sends_other x0 pre x hxn
  have h2 : x0.s.l[x]? = some (x0.s.l[x]'(by omega)) := List.getElem?_eq_getElem _
  obtain ⟨r, hr⟩ : ∃ r, x0.s.l[x]'(by omega) = r := ⟨_, rfl⟩
  rw [hr] at h2
  have hrl : (x0.sends pre).s.l[x]? = some r := h1.trans h2
  have hrs : r.stage = 1 := by simpa [stOf, h2] using hxs
  have hbc := hi.box
  have hbc2 := hi.box2
  have hWr := hi.wrote
  obtain ⟨X, hX⟩ : ∃ X, x0.sends pre = X := ⟨_, rfl⟩
  have hI' := hid hi;have hXn := hid (SS.sends_snoc x0 pre x)
  rw [hX] at hO hlens hrl hXn
  have HX := hid hX;clear hi h1 h2 hr hxs hX;have hbr : (L.rb[x]?.getD 0) = b := by rw [hb]; rfl
  rw [hbr]
  have hrow := hO.cells x b r hb hrl
  have k1 := hbc.cell
  have hn0 : ((idsOf X.s.l).length : Int) <= 100 := by have := hO.ok.under; have := hO.ok.win; omega
  have CL := hid fun (w1 : World) (hb1 : Below W.heap.size W w1) => in_Len L.ib L.sb 100 V (idsOf X.s.l) w1 (hO.below hb1).inb hO.set (hO.below hb1).tz
  obtain ⟨m, hm⟩ : ∃ m : Int, ((idsOf X.s.l).length : Int) = m := ⟨_, rfl⟩
  rw [hm] at CL
  gi_wp2_with fail
  refine regionQIn [(1000, fun w' => Boxed w' c 26 (.pointer (some ⟨L.p, 0, none⟩))), (1000, fun w' => Blk w' L.p (boxCells { L with vp := vp, vc := vc, W := V } X.s) 123)] (by kernel_rfl) (by kernel_rfl) ⟨hbc, hO.box, trivial⟩ fun KQ hKQ => ?_
  refine lR 0 0 rfl rfl rfl rfl (fun w' hf => by (have k0 := hf.cell; go_simp <;> with_reducible rfl)) ?_
  simp only [PT];refine nQ 1 ?_;refine tQ [2] ?_;refine loadQ 3 rfl (by kernel_rfl) (by kernel_rfl) rfl rfl 1 rfl (by kernel_rfl) (.pointer (some ⟨L.ib, 0, none⟩)) (fun w' hf => by (have k0 : w'.cell? ⟨L.p, 0, none⟩ = some (.pointer (some ⟨L.ib, 0, none⟩)) := hf.cell 0; go_simp <;> with_reducible rfl)) ?_
  simp only [PT];refine lR 5 0 rfl rfl rfl rfl (fun w' hf => by (have k0 := hf.cell; go_simp <;> with_reducible rfl)) ?_
  simp only [PT];refine nQ 6 ?_;refine tQ [7] ?_;refine loadQ 8 rfl (by kernel_rfl) (by kernel_rfl) rfl rfl 1 rfl (by kernel_rfl) (.int .i64 X.s.window) (fun w' hf => by (have k0 : w'.cell? ⟨L.p, 2, none⟩ = some (.int .i64 X.s.window) := hf.cell 2; go_simp <;> with_reducible rfl)) ?_
  simp only [PT];refine sQ 4 fun K hK => ?_;simp only [GO];go_simp;refine (CL.out _ (Below.refl _ W).drew).mono ?_
  rintro e w1 ⟨rfl, hb1⟩
  replace hb1 := undrew hb1
  refine hK _ _ ⟨⟨fun _ => boxed_below hbc hb1, fun _ => hO.box.below hb1, trivial⟩, ?_⟩
  clear hK K;refine tQ [9] ?_;refine dQ (hKQ.out _ _ ?_);clear hKQ KQ;by_cases hfull : X.s.window <= m
  ·have df : decide (X.s.window <= m) = true := decide_eq_true hfull
   gi_wp2
   refine ⟨Keep.of_below hb1 (Nat.zero_le _) (fun k hk => by simp at hk; omega), rfl, pre, x, rfl, hstep hI'.out (Wrote.of_below (M := []) hb1) (by simp), ?_⟩
   rw [HX.out, hm]; exact hfull
  ·have df : decide (X.s.window <= m) = false := decide_eq_false hfull
   have hO1 := hid (hO.below hb1)
   have kc : w1.cell? ⟨c, 0, none⟩ = some (.pointer (some ⟨L.p, 0, none⟩)) := (boxed_below hbc hb1).cell
   have kp5 : w1.cell? ⟨L.p, 5, none⟩ = some (.int .i64 X.s.id) := hO1.out.box.cell 5
   have CF := hid (out_first hO1.out c (boxed_below hbc hb1) X.s.id hO1.out.ok.id)
   try dsimp only at CF
   obtain ⟨y, hy⟩ : ∃ y, firstI (idsOf X.s.l).length X.s.id (idsOf X.s.l) = y := ⟨_, rfl⟩
   have hyr : 1 <= y /\ y <= 65535 := by rw [<- hy]; exact firstI_range _ _ _ hO1.out.ok.id
   have hyf : y.toNat ∉ idsOf X.s.l := by rw [<- hy]; exact firstI_free _ _ hO1.out.ok.id (by omega)
   rw [hy] at CF
   have hyf := hid hyf;have hy := hid hy
   gi_wp2_with (
    refine inW CF.out ?_
    rintro e w2 ⟨rfl, hb2⟩
    have hrow2 := (hrow.below hb1).below hb2
    have b3 : w2.cell? ⟨b, 3, none⟩ = some (.int .i64 r.id) := hrow2.cell 3
    have b8 : w2.cell? ⟨b, 8, none⟩ = some (.int .i64 r.stage) := hrow2.cell 8
    have z3 := hrow2.frozen 3
    have z8 := hrow2.frozen 8)
   have hO2 := hid (hO1.out.below hb2)
   have hbc2' := hid (boxed_below (boxed_below hbc hb1) hb2)
   clear CF kc kp5 b3 b8 z3 z8;refine wpIn_gen (fun W' => Wrote [b] w2 W' /\ Blk W' b (r.sent y).vals 33) ⟨(Wrote.setCell (M := [b]) w2 ⟨b, 3, none⟩ (by simp) _).trans (Wrote.setCell _ ⟨b, 8, none⟩ (by simp) _), (hrow2.set 3 _).set 8 _⟩ ?_
   rintro w3 ⟨hw3, hrow3⟩
   have hbf : b ∈ L.foot := by simp [Lay.foot, List.mem_of_getElem? hb]
   have hbcne : c ≠ b := by have := hfo _ hbf; omega
   have hsbf : L.sb ∈ L.foot := by simp [Lay.foot]
   have hbcne2 : c ≠ L.sb := by have := hfo _ hsbf; omega
   have hpbf : L.p ∈ L.foot := by simp [Lay.foot]
   have hbcne3 : c ≠ L.p := by have := hfo _ hpbf; omega
   have hrw2 := (hrow.below hb1).below hb2
   have npb : L.p ≠ b := hO2.out.box.ne hrw2 (by decide)
   have nib : L.ib ≠ b := hO2.out.inb.box.ne hrw2 (by decide)
   have nsb : L.sb ≠ b := hO2.out.inb.set.ne hrw2 (by decide)
   have nps : L.p ≠ L.sb := hO2.out.box.ne hO2.out.inb.set (by decide)
   have ngb : 1 ≠ b := fun e => h.gg (e ▸ hbf)
   have ngs : L.sb ≠ 1 := fun e => h.gg (e ▸ hsbf)
   have hbc3 : Boxed w3 c _ _ := hw3.boxed (by simpa using hbcne) hbc2'.out
   have hbox3 := hO2.out.box.wrote hw3 (by simpa using npb)
   have hinb3 := hO2.out.inb.wrote hw3 (by simpa using nib) (by simpa using nsb)
   have htz3 := hO2.out.tz.wrote hw3 (by simpa using ngb)
   have CC := hid (in_Come L.ib L.sb 100 V (idsOf X.s.l) y w3.drew ⟨hinb3.box, hinb3.set⟩ hO2.out.set htz3 hyr.1 hyr.2 ngs hyf.out (by have := hO2.out.ok.win; omega))
   refine regionQIn [(1000, fun w' => Boxed w' c 26 (.pointer (some ⟨L.p, 0, none⟩))), (1000, fun w' => Blk w' L.p (boxCells { L with vp := vp, vc := vc, W := V } X.s) 123), (1000, fun w' => Blk w' b (r.sent y).vals 33)] (by kernel_rfl) (by kernel_rfl) ⟨hbc3, hbox3, hrow3, trivial⟩ fun KQ hKQ => ?_
   refine lR 0 0 rfl rfl rfl rfl (fun w' hf => by (have k0 := hf.cell; go_simp <;> with_reducible rfl)) ?_
   simp only [PT];refine nQ 1 ?_;refine tQ [2] ?_;refine loadQ 3 rfl (by kernel_rfl) (by kernel_rfl) rfl rfl 1 rfl (by kernel_rfl) (.pointer (some ⟨L.ib, 0, none⟩)) (fun w' hf => by (have k0 : w'.cell? ⟨L.p, 0, none⟩ = some (.pointer (some ⟨L.ib, 0, none⟩)) := hf.cell 0; go_simp <;> with_reducible rfl)) ?_
   simp only [PT];refine tQ [4] ?_;refine nQ 5 ?_;refine tQ [6] ?_;refine loadQ 7 rfl (by kernel_rfl) (by kernel_rfl) rfl rfl 2 rfl (by kernel_rfl) (.int .i64 y) (fun w' hf => by (have k0 : w'.cell? ⟨b, 3, none⟩ = some (.int .i64 y) := hf.cell 3; go_simp <;> with_reducible rfl)) ?_
   simp only [PT];refine sQ 8 fun K hK => ?_;simp only [GO];go_simp;refine CC.out.mono ?_
   rintro e w4 ⟨rfl, hi4, hw4'⟩
   have hw4 : Wrote [L.sb] w3 w4 := ⟨hw4'.os, hw4'.tape, hw4'.output, hw4'.size, hw4'.block⟩
   clear hw4' CC;have hbc4 : Boxed w4 c _ _ := hw4.boxed (by simpa using hbcne2) hbc3
   have hrow4 := hrow3.wrote hw4 (by simpa using Ne.symm nsb)
   have hO4 := hid (hO2.out.sent x b r hb hrl hrs y hyr hyf.out (by omega) ((hw3.sub (by simp)).trans (hw4.sub (by simp))) hrow4 hi4)
   refine hK _ _ ⟨⟨fun _ => hbc4, fun _ => hO4.out.box, fun _ => hrow4, trivial⟩, ?_⟩
   clear hK K;refine dQ (hKQ.out _ _ ?_);clear hKQ KQ;gi_wp2
   refine regionQIn [(1000, fun w' => Boxed w' c 26 (.pointer (some ⟨L.p, 0, none⟩))), (1000, fun w' => Blk w' b (r.sent y).vals 33)] (by kernel_rfl) (by kernel_rfl) ⟨hbc4, hrow4, trivial⟩ fun KQ hKQ => ?_
   refine lR 0 0 rfl rfl rfl rfl (fun w' hf => by (have k0 := hf.cell; go_simp <;> with_reducible rfl)) ?_
   simp only [PT];refine tQ [1] ?_;refine nQ 2 ?_;refine tQ [3] ?_;refine loadQ 4 rfl (by kernel_rfl) (by kernel_rfl) rfl rfl 1 rfl (by kernel_rfl) (.int .i64 y) (fun w' hf => by (have k0 : w'.cell? ⟨b, 3, none⟩ = some (.int .i64 y) := hf.cell 3; go_simp <;> with_reducible rfl)) ?_
   simp only [PT];refine sQ 5 fun K hK => ?_;simp only [GO];go_simp;refine (out_behind y _ (by omega) hyr.2).mono ?_
   rintro e w5 ⟨rfl, rfl⟩
   refine hK _ _ ⟨⟨fun _ => hbc4, fun _ => hrow4, trivial⟩, ?_⟩
   clear hK K;refine nQ 6 ?_;refine tQ [7] ?_;have kp5 : w4.cell? ⟨L.p, 5, none⟩ = some (.int .i64 X.s.id) := hO4.out.box.cell 5
   have zp5 : w4.frozen? ⟨L.p, 5, none⟩ = false := hO4.out.box.frozen 5
   refine sQ 8 fun K hK => ?_;simp only [GO];go_simp;obtain ⟨hO5, hst5⟩ := hO4.out.setId (y % 65535 + 1) (nxt_range y)
   have hbc5 : Boxed (w4.setCell ⟨L.p, 5, none⟩ (.int .i64 (y % 65535 + 1))) c _ _ := (Wrote.setCell (M := [L.p]) w4 ⟨L.p, 5, none⟩ (by simp) _).boxed (by simpa using hbcne3) hbc4
   have hrow5 : Blk (w4.setCell ⟨L.p, 5, none⟩ (.int .i64 (y % 65535 + 1))) b _ _ := hrow4.set_ne ⟨L.p, 5, none⟩ npb _
   refine hK _ _ ⟨⟨fun _ => hbc5, fun _ => hrow5, trivial⟩, ?_⟩
   clear hK K kp5 zp5;refine dQ (hKQ.out _ _ ?_);clear hKQ KQ;obtain ⟨w5, hw5⟩ : ∃ w5, (w4.setCell ⟨L.p, 5, none⟩ (.int .i64 (y % 65535 + 1))).drew = w5 := ⟨_, rfl⟩
   try dsimp only at hO5 hst5
   replace hO5 := hO5.drew
   replace hrow5 := hrow5.drew
   replace hst5 := hst5.trans (Stp.below (Below.refl _ _).drew)
   replace hbc5 := boxed_below hbc5 (Below.refl _ _).drew
   rw [hw5] at hO5 hst5 hbc5 hrow5 ⊢
   replace hw5 := hid hw5;replace hO5 := hid hO5;gi_wp2
   refine regionQIn [(1000, fun w' => Boxed w' c 26 (.pointer (some ⟨L.p, 0, none⟩)))] (by kernel_rfl) (by kernel_rfl) ⟨hbc5, trivial⟩ fun KQ hKQ => ?_
   refine lR 0 0 rfl rfl rfl rfl (fun w' hf => by (have k0 := hf.cell; go_simp <;> with_reducible rfl)) ?_
   simp only [PT];refine tQ [1] ?_;refine sQ 2 fun K hK => ?_;simp only [GO];go_simp;refine (out_publish b (r.sent y) false _ hrow5.drew).mono ?_
   rintro e w6 ⟨rfl, hb6⟩
   replace hb6 := undrew hb6
   refine hK _ _ ⟨⟨fun _ => boxed_below hbc5 hb6, trivial⟩, ?_⟩
   clear hK K;refine sQ 3 fun K hK => ?_;simp only [GO];refine wp_slice_one _ rfl ePack (by decide) (by decide) _ rfl rfl ?_
   refine hK _ _ ⟨⟨fun _ => (boxed_below hbc5 hb6).alloc _, trivial⟩, ?_⟩
   clear hK K;refine sQ 4 fun K hK => ?_;simp only [GO];go_simp;have hlp := hlens.1
   have hlc := hlens.2.1
   have hO6 := (hO5.out.below hb6).alloc (.cells (Value.agg ((r.sent y).pub false).cells.toArray).cells 81)
   refine (out_says hO6 ((r.sent y).pub false) w6.heap.size (Blk.new w6 _ _) (by omega)).mono ?_
   rintro e w7 ⟨rfl, v7, hO7, hst7⟩
   have hst67 := (Stp.below (F := Lay.foot { L with vp := vp, vc := vc, W := tog V y.toNat }) hb6).trans ((Stp.below ((Below.refl _ _).alloc (Nat.le_refl _) _)).trans hst7)
   have hcf : ∀ {v1 v2 : Value}, (∀ x ∈ Lay.foot { L with vp := vp, vc := vc, W := V }, x ∈ L.foot \/ W0.heap.size + 2 <= x) -> c ∉ Lay.foot { L with vp := vp, vc := vc, W := V } := fun hs hx => by
    rcases hs c hx with h1 | h1
    ·have := hfo _ h1; omega
    ·omega
   have hbc7 : Boxed w7 c 26 (.pointer (some ⟨L.p, 0, none⟩)) := hst67.wrote.boxed (hcf (v1 := vp) (v2 := vc) hs) hbc5
   refine hK _ _ ⟨⟨fun _ => hbc7, trivial⟩, ?_⟩
   clear hK K;refine dQ (hKQ.out _ _ ?_);clear hKQ KQ;have hrow7 : Blk w7 b (r.sent y).vals 33 := hO7.cells x b (r.sent y) hb (List.getElem?_set_self (List.getElem?_eq_some_iff.1 hrl).1)
   have hO7 := hid hO7;gi_wp2
   refine regionQIn [(1000, fun w' => Boxed w' c 26 (.pointer (some ⟨L.p, 0, none⟩))), (1000, fun w' => Blk w' b (r.sent y).vals 33)] (by kernel_rfl) (by kernel_rfl) ⟨hbc7, hrow7, trivial⟩ fun KQ hKQ => ?_
   refine lR 0 0 rfl rfl rfl rfl (fun w' hf => by (have k0 := hf.cell; go_simp <;> with_reducible rfl)) ?_
   simp only [PT];refine tQ [1] ?_;refine nQ 2 ?_;refine loadQ 3 rfl (by kernel_rfl) (by kernel_rfl) rfl rfl 1 rfl (by kernel_rfl) (.agg #[.int .i64 r.kind, .string ⟨r.client.toArray⟩, .int .i64 r.seq, .int .i64 y, .string ⟨r.topic.toArray⟩, .string ⟨r.body.toArray⟩, .int .i64 r.qos, .bool r.retain, .int .i64 2]) (fun w' hf => by (exact rowLoad hf)) ?_
   simp only [PT];refine tQ [4] ?_;refine sQ 5 fun K hK => ?_;simp only [GO];refine wp_slice_one _ rfl eChg (by decide) (by decide) _ rfl rfl ?_
   refine hK _ _ ⟨⟨fun _ => (boxed_below hbc7 (Below.refl _ _).drew).alloc _, fun _ => hrow7.drew.alloc _, trivial⟩, ?_⟩
   clear hK K;refine sQ 6 fun K hK => ?_;simp only [GO];go_simp;refine (out_changes (hO7.out.drew.alloc _) ⟨false, r.sent y⟩ w7.heap.size (Blk.new_at _ _ _ _ (by simp)) (by omega)).mono ?_
   rintro e w8 ⟨rfl, v8, hO8, hst8⟩
   have hst78 := ((Stp.below (F := Lay.foot { L with vp := v7, vc := vc, W := tog V y.toNat }) (Below.refl _ w7).drew).trans (Stp.below ((Below.refl _ _).alloc (Nat.le_refl _) _))).trans hst8
   have hstB : Stp (Lay.foot { L with vp := vp, vc := vc, W := V }) (Lay.foot { L with vp := vp, vc := vc, W := tog V y.toNat }) W w4 :=
    ⟨((Wrote.of_below hb1).trans (Wrote.of_below hb2)).trans ((hw3.sub (by simp [Lay.foot]; exact Or.inr (Or.inr (Or.inr (Or.inr (Or.inr (Or.inr (List.mem_of_getElem? hb)))))))).trans (hw4.sub (by simp [Lay.foot]))), fun x hx => .inl hx⟩
   have hstT := ((hstB.trans hst5).trans hst67).trans hst78
   have hbcT : Boxed w8 c 26 (.pointer (some ⟨L.p, 0, none⟩)) := hstT.wrote.boxed (hcf (v1 := vp) (v2 := vc) hs) hbc
   refine hK _ _ ⟨⟨fun _ => hbcT, fun _ => hO8.cells x b (r.sent y) hb (List.getElem?_set_self (List.getElem?_eq_some_iff.1 hrl).1), trivial⟩, ?_⟩
   clear hK K;refine dQ (hKQ.out _ _ ?_);clear hKQ KQ;gi_wp2
   have hsend : x0.sends (pre ++ [x]) = ⟨{ X.s with l := X.s.l.set x (r.sent y), id := y % 65535 + 1 }, X.ps ++ [(r.sent y).pub false], X.cs ++ [⟨false, r.sent y⟩]⟩ := by
    rw [hXn.out]
    unfold SS.send
    rw [if_neg (by omega), hrl]
    simp only [hy.out]
   have hkF : ∀ k, k = c + 2 \/ k = c + 2 + 1 -> k ∉ Lay.foot { L with vp := vp, vc := vc, W := V } := fun k hk hx => by
    rcases hs k hx with h1 | h1
    ·have := hfo _ h1; omega
    ·omega
   refine ⟨⟨⟨hstT.wrote.os, hstT.wrote.tape, hstT.wrote.output, hstT.size, fun k hk => absurd hk (Nat.not_lt_zero _)⟩, fun k hk => hstT.wrote.block k (by simp at hk; omega) (hkF k (by simpa using hk))⟩, ⟨⟨v7, v8, tog V y.toNat, ?_, fun z hz => ?_⟩, ?_, hbcT, ?_⟩⟩
   ·rw [hsend]; exact hO8
   ·rcases hstT.sub z hz with h1 | h1
    ·exact hs z h1
    ·exact .inr (by omega)
   ·refine ⟨hstT.wrote.os.trans hWr.os, hstT.wrote.tape.trans hWr.tape, hstT.wrote.output.trans hWr.output, Nat.le_trans hWr.size hstT.size, fun k hk hm => (hstT.wrote.block k (Nat.lt_of_lt_of_le hk hWr.size) (fun hx => ?_)).trans (hWr.block k hk hm)⟩
    rcases hs k hx with h1 | h1
    ·exact hm h1
    ·omega
   ·refine hstT.wrote.boxed (fun hx => ?_) hbc2
    rcases hs _ hx with h1 | h1
    ·have := hfo _ h1; omega
    ·omega
 case done =>
  rintro xs W rfl hi hl hD
  go_wp2
  obtain ⟨vp, vc, V, hO, hs⟩ := hi.ob
  refine end_mark hD (results_none rfl _ _ _) (fun w' hw' => ?_)
  have hwr : Wrote [W0.heap.size] W w' := by rw [hw']; exact Wrote.putObj _ _ (by simp) _
  have hi' := hstep hi hwr (by simp)
  obtain ⟨vp', vc', V', hO', hs'⟩ := hi'.ob
  have e : x0.all = x0.sends (waitQ (stOf x0.s.l) L.rb.length) := by unfold SS.all; rw [hlen]
  rw [e]
  exact ⟨rfl, vp', vc', V', hO', ⟨(Wrote.of_below hb0).trans hi'.wrote, fun x hx => (hs' x hx).imp id (fun h1 => by omega)⟩⟩
 case stop =>
  rintro code pre W ⟨rest, hq⟩ ⟨rfl, pre', x, rfl, hi, hfull⟩ hl hD
  go_wp2
  refine end_mark2 hD (results_none rfl _ _ _) (fun w' hw' => ?_)
  have hwr : Wrote [W0.heap.size] W w' := by rw [hw']; exact Wrote.putObj _ _ (by simp) _
  have hi' := hstep hi hwr (by simp)
  obtain ⟨vp', vc', V', hO', hs'⟩ := hi'.ob
  have e : x0.all = x0.sends pre' := by
   unfold SS.all
   rw [<- hlen, hq, List.append_assoc]
   show (pre' ++ ([x] ++ rest)).foldl SS.send x0 = _
   rw [List.foldl_append]
   exact SS.sends_full (x0.sends pre') _ hfull
  rw [e]
  exact ⟨rfl, vp', vc', V', hO', ⟨(Wrote.of_below hb0).trans hi'.wrote, fun x hx => (hs' x hx).imp id (fun h1 => by omega)⟩⟩
end
section
def SS.fin (x : SS) (q i : Int) : SS := ⟨x.s, x.ps, x.cs ++ (if x.s.seq = q /\ x.s.id = i then [] else [⟨false, x.s.session⟩])⟩
def OS.start (s : OS) : SS := ⟨s, [], []⟩
theorem all_len (x : SS) (h : x.s.l.length <= 1000) : x.all.ps.length <= x.ps.length + 1000 /\ x.all.cs.length <= x.cs.length + 1000 := by
 have h1 := sends_len x (waitQ (stOf x.s.l) x.s.l.length)
 have h2 : (waitQ (stOf x.s.l) x.s.l.length).length <= x.s.l.length := by simpa [waitQ] using List.length_filter_le (fun i => decide (stOf x.s.l i = 1)) (List.range x.s.l.length)
 unfold SS.all
 omega
theorem sends_same (x : SS) (q : List Nat) : (x.sends q).s.client = x.s.client /\ (x.sends q).s.seq = x.s.seq /\ (x.sends q).s.window = x.s.window /\ (x.sends q).s.room = x.s.room := by
 induction q generalizing x with
 | nil => simp [SS.sends]
 | cons i q ih =>
  have h1 := ih (x.send i)
  have h2 := SS.send_alike x i
  exact ⟨h1.1.trans h2.client, h1.2.1.trans h2.seq, h1.2.2.1.trans h2.window, h1.2.2.2.trans h2.room⟩
theorem all_same (x : SS) : x.all.s.client = x.s.client /\ x.all.s.seq = x.s.seq := ⟨(sends_same x _).1, (sends_same x _).2.1⟩
theorem out_Send {w : World} {B : Nat} {L : Lay} {s : OS} (h : OB w B L s [] []) (hn : L.vp = .slice none 0 0 /\ L.vc = .slice none 0 0) :
  Calls Tryz.prog 42 #[.pointer (some ⟨L.p, 0, none⟩)] w fun e w' => ∃ vp vc L', e = .returned (.tuple #[.agg #[vp, vc], .int .i64 0]) /\
   DidAt w w' L L' (s.start.all.fin s.seq s.id).s vp vc (s.start.all.fin s.seq s.id).ps (s.start.all.fin s.seq s.id).cs := by
 have hs0 := hid (show s.start.s = s from rfl)
 obtain ⟨X, hX⟩ : ∃ X, s.start.all = X := ⟨_, rfl⟩
 have hXl := all_len s.start (by have := h.ok.room; show s.l.length <= 1000; omega)
 have hXs := all_same s.start
 have SEND := hid fun (w1 : World) (hb : Below w.heap.size w w1) => by
  have h1 := OB.rebase (L := { L with vp := .slice none 0 0, vc := .slice none 0 0 }) (s := s) (by
   have h0 := h
   obtain ⟨p, ib, sb, vl, vp, vc, rb, W⟩ := L
   dsimp only at hn
   obtain ⟨rfl, rfl⟩ := hn
   exact h0.below hb) (B' := w.heap.size) hb.size
  exact out_send (x0 := s.start) h1 (Nat.zero_le _) (Nat.zero_le _)
 rw [hX] at hXl hXs SEND ⊢
 obtain ⟨Xs, Xp, Xc⟩ := X
 obtain ⟨xcl, xwin, xroom, xseq, xid, xl⟩ := Xs
 obtain ⟨client, window, room, seq, id, l⟩ := s
 obtain ⟨p, ib, sb, vl, vp, vc, rb, W⟩ := L
 dsimp only [OS.start] at hn hXl hXs SEND ⊢
 obtain ⟨rfl, rfl⟩ := hn
 obtain ⟨rfl, rfl⟩ := hXs
 simp only [List.length_nil, Nat.zero_add] at hXl
 clear hX hs0;have CN := hid fun (w1 : World) (hb : Below w.heap.size w w1) => out_none (h.below hb)
 have CS := hid fun (w1 : World) (hb : Below w.heap.size w w1) => out_Session (h.below hb)
 dsimp only [OS.session, RowV.vals] at CS
 have hp : p < w.heap.size := h.box.lt
 go_enter Tryz.func42, Tryz.ntmps42
 go_wp2_with fail
 refine (CN.out _ ((Below.refl _ w).alloc (Nat.le_refl _) _)).mono ?_
 rintro e w1 ⟨rfl, rfl⟩
 go_wp2_with fail
 refine (CS.out _ ((Below.refl _ w).alloc (Nat.le_refl _) _)).mono ?_
 rintro e w3 ⟨rfl, hb3⟩
 go_wp2_with fail
 have hbw : Below w.heap.size w w3 := ((Below.refl _ w).alloc (Nat.le_refl _) _).trans (hb3.mono (by simp))
 have hz3 : w.heap.size + 1 <= w3.heap.size := by have := hb3.size; simp at this; omega
 have hbw2 := hbw.alloc hbw.size (.cells #[.int .i64 1, .string ⟨xcl.toArray⟩, .int .i64 xseq, .int .i64 id, .string ⟨#[]⟩, .string ⟨#[]⟩, .int .i64 0, .bool false, .int .i64 0] 33)
 have bDid := ((Blk.new w #[.slice none 0 0, .slice none 0 0] 53).below hb3).alloc (.cells #[.int .i64 1, .string ⟨xcl.toArray⟩, .int .i64 xseq, .int .i64 id, .string ⟨#[]⟩, .string ⟨#[]⟩, .int .i64 0, .bool false, .int .i64 0] 33)
 have bWas := Blk.new w3 #[.int .i64 1, .string ⟨xcl.toArray⟩, .int .i64 xseq, .int .i64 id, .string ⟨#[]⟩, .string ⟨#[]⟩, .int .i64 0, .bool false, .int .i64 0] 33
 have hB2 := hid bDid;have hS0 := Stp.below (F := Lay.foot ⟨p, ib, sb, vl, .slice none 0 0, .slice none 0 0, rb, W⟩) hbw2
 refine (SEND.out _ hbw2).mono ?_
 rintro e w4 ⟨rfl, v4, u4, V4, hO4, hst4⟩
 have hfo : ∀ x ∈ (Lay.foot ⟨p, ib, sb, vl, .slice none 0 0, .slice none 0 0, rb, W⟩), x < w.heap.size := h.lt
 have hnw : w3.heap.size ∉ (Lay.foot ⟨p,ib,sb,vl,.slice none 0 0,.slice none 0 0,rb,W⟩) := (fun hx=>by have:=hfo _ hx;omega)
 have hnd : w.heap.size ∉ (Lay.foot ⟨p,ib,sb,vl,.slice none 0 0,.slice none 0 0,rb,W⟩) := (fun hx=>by have:=hfo _ hx;omega)
 have hWas4 := hid (bWas.wrote hst4.wrote hnw)
 have hDid4 := hid (hB2.out.wrote hst4.wrote hnd)
 have hO4 := hid hO4;have s0 : w4.cell? ⟨w3.heap.size, 0, none⟩ = some (.int .i64 1) := hWas4.out.cell 0
 have s1 : w4.cell? ⟨w3.heap.size, 1, none⟩ = some (.string ⟨xcl.toArray⟩) := hWas4.out.cell 1
 have s2 : w4.cell? ⟨w3.heap.size, 2, none⟩ = some (.int .i64 xseq) := hWas4.out.cell 2
 have s3 : w4.cell? ⟨w3.heap.size, 3, none⟩ = some (.int .i64 id) := hWas4.out.cell 3
 have s4 : w4.cell? ⟨w3.heap.size, 4, none⟩ = some (.string ⟨#[]⟩) := hWas4.out.cell 4
 have s5 : w4.cell? ⟨w3.heap.size, 5, none⟩ = some (.string ⟨#[]⟩) := hWas4.out.cell 5
 have s6 : w4.cell? ⟨w3.heap.size, 6, none⟩ = some (.int .i64 0) := hWas4.out.cell 6
 have s7 : w4.cell? ⟨w3.heap.size, 7, none⟩ = some (.bool false) := hWas4.out.cell 7
 have s8 : w4.cell? ⟨w3.heap.size, 8, none⟩ = some (.int .i64 0) := hWas4.out.cell 8
 go_wp2_with fail
 refine (out_done hO4.out xseq id (by (try dsimp only); omega)).mono ?_
 rintro e w7 ⟨vp, vc, cs', rfl, hcs, hob, hpk, hch, hst7⟩
 have hfin : (SS.fin ⟨⟨xcl, xwin, xroom, xseq, xid, xl⟩, Xp, Xc⟩ xseq id) = ⟨⟨xcl, xwin, xroom, xseq, xid, xl⟩, Xp, cs'⟩ := by rw [hcs]; rfl
 replace hfin := hid hfin;obtain ⟨ap, cp, rfl⟩ := own_slice hpk
 obtain ⟨ac, cc, rfl⟩ := own_slice hch
 have hst67 := hst4.trans hst7
 have hnd4 := hst4.not hnd (hB2.out.lt)
 have hDid7 := hDid4.out.wrote hst7.wrote hnd4
 have y0 : w7.cell? ⟨w.heap.size, 0, none⟩ = some (.slice none 0 0) := hDid7.cell 0
 have y1 : w7.cell? ⟨w.heap.size, 1, none⟩ = some (.slice none 0 0) := hDid7.cell 1
 have z0 := hDid7.frozen 0
 have z1 := hDid7.frozen 1
 have HPK := hid hpk;have HCH := hid hch;clear hpk hch hcs;go_wp2
 refine bodyPost_gen (fun W' => W'.cell? ⟨w.heap.size, 0, none⟩ = some (.slice ap Xp.length cp) /\ W'.cell? ⟨w.heap.size, 1, none⟩ = some (.slice ac cs'.length cc) /\ Wrote [w.heap.size] w7 W') ⟨((hDid7.set 0 _).set 1 _).cell 0, ((hDid7.set 0 _).set 1 _).cell 1, (Wrote.setCell (M := [w.heap.size]) w7 ⟨w.heap.size, 0, none⟩ (by simp) _).trans (Wrote.setCell _ ⟨w.heap.size, 1, none⟩ (by simp) _)⟩ ?_
 rintro W' ⟨e0, e1, hW⟩
 refine bodyPost_ret (v := .tuple #[.agg #[.slice ap Xp.length cp, .slice ac cs'.length cc], .int .i64 0]) (by simp [results, Tryz.results42, go_sem, e0, e1]) rfl ?_
 have hS := (hS0.trans hst67).fresh hW (by simp)
 have hnf7 := hst7.not hnd4 hDid4.out.lt
 have hg1 : 1 ∉ [w.heap.size] := by have := h.tz.lt; simp only [List.mem_singleton]; omega
 rw [hfin.out]
 refine ⟨_, _, _, rfl, ((hob 0 (Nat.zero_le _)).out hW (by simpa using hnf7) hg1).rebase (Nat.le_refl _), ⟨rfl, rfl⟩, rfl, hS, not_own HPK.out hW (fun x hx hb => ?_), not_own HCH.out hW (fun x hx hb => ?_)⟩
 ·simp at hx; subst hx
  exact block_not_row hDid7 (by decide) HPK.out (mem_blk.1 hb).symm
 ·simp at hx; subst hx
  exact block_not_row hDid7 (by decide) HCH.out (mem_blk.1 hb).symm
end
end Go.Proofs.YtoinabapaeebfaaGreatDoor
