/- Contracts of package session (part 14): Wants. · The law's session: setup, known. -/
import Derived.Test.YtoinabapaeebfaaGreatDoorPk41
import Derived.Test.YtoinabapaeebfaaGreatDoorPk42
import Derived.Test.YtoinabapaeebfaaGreatDoorPk28
import Derived.Test.YtoinabapaeebfaaGreatDoorPk39
set_option linter.unusedSimpArgs false
set_option linter.unusedVariables false
namespace Go.Proofs.YtoinabapaeebfaaGreatDoor
open Go.RowKit Go.Shelf Go.Sort
attribute [local go_sem] Oper.semAt_some

def subC (cl : List UInt8) (p : List UInt8 × Int) : List Value := [wStr p.1, wStr cl, .int .i64 p.2]
theorem eSub : ElemT Tryz.prog 87 90 (.agg #[.string ⟨#[]⟩, .string ⟨#[]⟩, .int .i64 0]) 3 40 := ⟨Tryz.underlying87, by kernel_rfl, by kernel_rfl⟩
theorem subC_one (cl : List UInt8) (p : List UInt8 × Int) : ∀ u ∈ subC cl p, u.oneCell' = true := by simp [subC, wStr, Value.oneCell']

structure WaI (w : World) (p : Nat) (cl : List UInt8) (pre : WL) (W : World) : Prop where
  box : Boxed W w.heap.size 55 (.pointer (some ⟨p, 0, none⟩))
  box2 : Boxed W (w.heap.size + 2) 55 (.pointer (some ⟨p, 0, none⟩))
  below : Below w.heap.size w W
  out : ∃ v, Boxed W (w.heap.size + 1) 87 v ∧ W.ownsRow (w.heap.size + 5) 90 3 v pre.length (pre.flatMap (subC cl))
theorem WaI.wrote {w : World} {p : Nat} {cl : List UInt8} {pre : WL} {A A' : World} {M : List Nat} (h : WaI w p cl pre A) (hw : Wrote M A A') (hM : ∀ x ∈ M, w.heap.size + 3 ≤ x ∧ x < w.heap.size + 5) : WaI w p cl pre A' := by
  obtain ⟨v, h1, h2⟩ := h.out
  refine ⟨hw.boxed (fun hx => by have := (hM _ hx).1; omega) h.box, hw.boxed (fun hx => by have := (hM _ hx).1; omega) h.box2, h.below.trans (hw.below h.below.size (fun x hx => by have := (hM x hx).1; omega)), v, hw.boxed (fun hx => by have := (hM _ hx).1; omega) h1, not_own h2 hw (fun x hx hb => by have := (hM x hx).2; have := (h2.lt x (mem_blk.1 hb)).1; omega)⟩
theorem KpS.of_wrote {L M : List Nat} {a b : World} (hw : Wrote M a b) (hM : ∀ x ∈ M, x ∉ L ∧ ∀ cs f, a.heap[x]? ≠ some (.cells cs 9 f)) (hL : ∀ k ∈ L, k < a.heap.size) : KpS L a b :=
  ⟨hw.size, fun k hk => hw.block k (hL k hk) (fun h => (hM k h).1 hk), fun k cs f hk => (hw.block k (Array.getElem?_eq_some_iff.1 hk).1 (fun h => (hM k h).2 cs f hk)).trans hk⟩
theorem row_cells {W : World} {base e size n : Nat} {v : Value} {xs : List Value} (hr : W.ownsRow base e size v n xs) {b : Nat} (hb : b ∈ blk v) : ∃ cur, W.heap[b]? = some (.cells cur e (0, 0)) := by
  obtain ⟨_, ⟨rfl, _⟩ | ⟨g, cap, cur, rfl, _, hg, _⟩⟩ := hr
  · simp [blk, Value.ownBlock] at hb
  · simp [blk, Value.ownBlock] at hb
    subst hb
    exact ⟨cur, hg⟩
theorem KpS.refl (L : List Nat) (w : World) : KpS L w w := ⟨Nat.le_refl _, fun _ _ => rfl, fun _ _ _ h => h⟩
theorem loop_not_row {W : World} {b : Nat} {r : Loop} (h : W.heap[b]? = some (.loop r)) {base e size n : Nat} {v : Value} {xs : List Value} (hr : W.ownsRow base e size v n xs) : b ∉ blk v := by
  intro hb
  obtain ⟨_, ⟨rfl, _⟩ | ⟨g, cap, cur, rfl, _, hg, _⟩⟩ := hr
  · simp [blk, Value.ownBlock] at hb
  · simp [blk, Value.ownBlock] at hb
    subst hb
    rw [h] at hg
    cases hg

set_option maxRecDepth 100000 in
set_option maxHeartbeats 2000000 in
theorem ses_Wants {w : World} {B : Nat} {S : XLay} {x : XS} (h : XB w B S x) (hkl : ∀ q ∈ x.wants, q.1.length ≤ 1000000) :
    Calls Tryz.prog 31 #[.pointer (some ⟨S.p, 0, none⟩)] w fun e w' => ∃ v, e = .returned v ∧ w'.ownsRow w.heap.size 90 3 v x.wants.length ((sortW x.wants).flatMap (subC x.o.client)) ∧ Below w.heap.size w w' := by
  have CN := hid fun o => ses_none (h.alloc o)
  have H := hid h
  refine calls_marks Tryz.func31 rfl ?_
  simp only [Tryz.ntmps31, List.size_toArray, List.length_cons, List.length_nil, Nat.reduceAdd, Nat.reduceSub, Array.replicate_succ, Array.replicate_zero, List.push_toArray, List.append_toArray, List.nil_append, List.cons_append]
  go_wp2_with (go_at_call 60; refine (CN.out _).mono ?_; rintro e w0 ⟨rfl, rfl⟩)
  refine (ses_filters S.p).mono ?_
  rintro e w1 ⟨rfl, rfl⟩
  go_wp2_with fail
  try simp only [World.size_alloc]
  obtain ⟨W0, hW0⟩ : ∃ W0, ((w.alloc (.cells #[.pointer (some ⟨S.p, 0, none⟩)] 55)).alloc (.cells #[.slice none 0 0] 87)).alloc (.cells #[.pointer (some ⟨S.p, 0, none⟩)] 55) = W0 := ⟨_, rfl⟩
  have hsz : W0.heap.size = w.heap.size + 3 := by rw [← hW0]; simp
  have hb0 : Below w.heap.size w W0 := by
    rw [← hW0]
    repeat (first | exact Below.refl _ _ | (refine Below.setCell ?_ (by simp <;> omega) _) | (refine Below.alloc ?_ (by simp <;> omega) _) | refine Below.drew ?_)
  have b1 : Boxed W0 w.heap.size 55 (.pointer (some ⟨S.p, 0, none⟩)) := by
    have e1 := Boxed.new w 55 (.pointer (some ⟨S.p, 0, none⟩))
    rw [← hW0]; exact (e1.alloc _).alloc _
  have b2 : Boxed W0 (w.heap.size + 1) 87 (.slice none 0 0) := by
    rw [← hW0]; exact (Blk.new_at _ _ _ _ (by simp)).alloc _
  have b3 : Boxed W0 (w.heap.size + 2) 55 (.pointer (some ⟨S.p, 0, none⟩)) := by
    rw [← hW0]; exact Blk.new_at _ _ _ _ (by simp)
  have hp0 := H.out.box.below hb0
  have hm0 := H.out.wm.below hb0
  have hwl : x.wants.length ≤ 1000000 := by have := H.out.ok.wants; have := H.out.ok.subs; omega
  rw [hW0]
  have hW0 := hid hW0
  have hslen := sortW_len x.wants
  have hsub1 : ∀ pre q, (∃ i, pre = (sortW x.wants).take i ∧ (sortW x.wants)[i]? = some q) → pre.length < 1000000 := by
    rintro pre q ⟨i, rfl, hi⟩
    have := (List.getElem?_eq_some_iff.1 hi).1
    simp
    omega
  have hsub1 := hid hsub1
  refine wp_rangeH (α := List UInt8 × Int) (gf := 121) (lb := #[.pointer (some ⟨w.heap.size + 2, 0, none⟩)]) rfl (enters_of Tryz.func121 (by kernel_rfl) rfl)
    (ses_filters1 (w.heap.size + 2) S.p S.m _ x.wants W0 hp0 rfl hm0 b3 hkl hwl) (fun h k => h.trans k) ?hKb ?hAb (fun _ => rfl) (WaI w S.p x.o.client) (fun _ _ _ => False) ?hI ?hIx ?hIo ?hIxo ?h0
    (fun pre q a' W => (∃ i, pre = (sortW x.wants).take i ∧ (sortW x.wants)[i]? = some q) ∧ a' = { tmps := #[.pointer (some ⟨S.p, 0, none⟩), .pointer (some ⟨w.heap.size, 0, none⟩), .slice none 0 0, .pointer (some ⟨w.heap.size + 1, 0, none⟩), wStr q.1, .int .i64 q.2, .pointer (some ⟨S.p, 0, none⟩), .bool false, .pointer (some ⟨S.p, 0, none⟩), .func (.func 121) #[] #[.pointer (some ⟨w.heap.size + 2, 0, none⟩)], wStr q.1, .int .i64 q.2, undef, undef, undef, undef, undef, undef, undef, undef, undef], defers := [] })
    ?hAx ?assign ?body ?done ?stop
  case hKb =>
    rintro W o hl ⟨r, hr⟩
    rw [hsz] at hl hr ⊢
    have h1 := H.out.box.lt
    have h2 := H.out.wm.lt
    refine ⟨by simp [World.putObj], fun k hk => World.putObj_heap_other (by simp at hk; omega), fun k cs f hk => ?_⟩
    by_cases he : k = w.heap.size + 3 + 1
    · subst he
      rw [hr] at hk
      cases hk
    · rw [World.putObj_heap_other (by omega)]
      exact hk
  case hAb =>
    intro A A' hw hl
    exact ⟨hw.size, hw.block _ (by omega) (by simp), hw.block _ (by omega) (by simp)⟩
  case hI => exact fun s A A' h hw => h.wrote hw (by simp)
  case hIx => exact fun c s A A' h hw => h
  case hIo =>
    rintro s A o h hl ⟨r, hr⟩
    rw [hsz] at hl hr ⊢
    exact h.wrote (Wrote.putObj (M := [w.heap.size + 3 + 1]) A _ (by simp) o) (by
      intro y hy
      simp only [List.mem_singleton] at hy
      subst hy
      omega)
  case hIxo => exact fun c s A o h hl _ => h
  case h0 =>
    intro r
    refine ⟨(b1.alloc _).alloc _, (b3.alloc _).alloc _, (hb0.alloc (by omega) _).alloc (by simp; omega) _, .slice none 0 0, (b2.alloc _).alloc _, World.ownsRow_nil _ _ _ _⟩
  case hAx => exact fun pre q a' A o h hl => h
  case assign =>
    intro pre q W K hl hi hx hK
    simp only [encF]
    gi_wp2
    refine hK _ _ (Keep.refl _ _ _) (KpS.refl _ _) hi ⟨hx, rfl⟩
  case body =>
    rintro pre q a' W hl hi ⟨hx, rfl⟩
    obtain ⟨v, ho, hr⟩ := hi.out
    obtain ⟨av, cv, rfl⟩ := own_slice hr
    have hlp := hsub1.out pre q hx
    have hbel := hi.below
    have hbox := hi.box
    have hbox2 := hid hi.box2
    rw [hsz] at hl
    have CC := hid (ses_Client ((H.out.below hbel).drew))
    have ho := hid ho
    have hr := hid hr
    have hbox := hid hbox
    have hbel := hid hbel
    unfold wStr
    clear hi hx
    gi_wp2
    have ho' : Boxed W.drew (w.heap.size + 1) 87 (.slice av pre.length cv) := ho.out
    have hbox' : Boxed W.drew w.heap.size 55 (.pointer (some ⟨S.p, 0, none⟩)) := hbox.out
    have ho' := hid ho'
    have hbox' := hid hbox'
    refine regionQIn [(8, fun w' => Boxed w' (w.heap.size + 1) 87 (.slice av pre.length cv)), (1000, fun w' => Boxed w' w.heap.size 55 (.pointer (some ⟨S.p, 0, none⟩)))] (by kernel_rfl) (by kernel_rfl) ⟨ho'.out, hbox'.out, trivial⟩ fun KQ hKQ => ?_
    refine loadQ 0 rfl (by kernel_rfl) (by kernel_rfl) rfl rfl 0 rfl (by kernel_rfl) _ (fun w' hf => by (have k0 := hf.cell; go_simp <;> with_reducible rfl)) ?_
    simp only [Act.put, List.getElem_toArray, List.getElem_cons_zero, List.getElem_cons_succ, List.setIfInBounds_toArray, List.set_cons_zero, List.set_cons_succ]
    refine takeQ 1 rfl (by kernel_rfl) rfl (by kernel_rfl) fun K hK => ?_
    simp only [List.getElem_toArray, List.getElem_cons_zero, List.getElem_cons_succ]
    go_big_quiet_op
    refine hK _ ?_
    clear hK K
    refine loadQ 2 rfl (by kernel_rfl) (by kernel_rfl) rfl rfl 1 rfl (by kernel_rfl) _ (fun w' hf => by (have k0 := hf.cell; go_simp <;> with_reducible rfl)) ?_
    simp only [Act.put, List.getElem_toArray, List.getElem_cons_zero, List.getElem_cons_succ, List.setIfInBounds_toArray, List.set_cons_zero, List.set_cons_succ]
    refine takeQ 4 rfl (by kernel_rfl) rfl (by kernel_rfl) fun K hK => ?_
    simp only [List.getElem_toArray, List.getElem_cons_zero, List.getElem_cons_succ]
    go_big_quiet_op
    refine hK _ ?_
    clear hK K
    refine stepQ 3 rfl (by kernel_rfl) (by decide) (by kernel_rfl) fun K hK => ?_
    simp only [List.getElem_toArray, List.getElem_cons_zero, List.getElem_cons_succ]
    go_simp
    refine CC.out.mono ?_
    rintro e w4 ⟨rfl, hb4⟩
    have ho4 := boxed_below ho'.out hb4
    have hbox4 := boxed_below hbox'.out hb4
    have hr4 := ownsRow_below (show W.drew.ownsRow _ _ _ _ _ _ from hr.out) hb4
    have hbel4 := hbel.out.drew.trans (hb4.mono hbel.out.size)
    have hs4 : W.heap.size ≤ w4.heap.size := hb4.size
    refine hK _ _ ⟨⟨fun _ => ho4, fun _ => hbox4, trivial⟩, ?_⟩
    clear hK K
    refine takeQ 5 rfl (by kernel_rfl) rfl (by kernel_rfl) fun K hK => ?_
    simp only [List.getElem_toArray, List.getElem_cons_zero, List.getElem_cons_succ]
    go_big_quiet_op
    refine hK _ ?_
    clear hK K
    refine stepQ 6 rfl (by kernel_rfl) (by decide) (by kernel_rfl) fun K hK => ?_
    simp only [List.getElem_toArray, List.getElem_cons_zero, List.getElem_cons_succ]
    refine wp_slice_one _ rfl eSub (by decide) (by decide) (.agg (subC x.o.client q).toArray) rfl rfl ?_
    refine hK _ _ ⟨⟨fun _ => ho4.alloc _, fun _ => hbox4.alloc _, trivial⟩, ?_⟩
    clear hK K
    refine stepQ 7 rfl (by kernel_rfl) (by decide) (by kernel_rfl) fun K hK => ?_
    simp only [List.getElem_toArray, List.getElem_cons_zero, List.getElem_cons_succ]
    refine wp_append_grp _ _ rfl eSub (by decide) (w.heap.size + 5) (.slice av pre.length cv) pre.length (pre.flatMap (subC x.o.client)) rfl (ownsRow_below hr4 ((Below.refl w4.heap.size w4).alloc (Nat.le_refl _) _)) w4.heap.size (subC x.o.client q) 90 rfl (Blk.new _ _ _) rfl (subC_one _ _) (by omega) (by omega) (by have := hbel4.size; simp; omega) fun v' w5 r5 g5 n5 => ?_
    have hv5 : ∀ y ∈ blk (.slice av pre.length cv), w.heap.size + 5 ≤ y := fun y hy => (hr.out.lt y (mem_blk.1 hy)).1
    have hw5 : Wrote (blk (.slice av pre.length cv)) (w4.alloc (.cells (subC x.o.client q).toArray 90)) w5 := Wrote.of_grown g5 (fun j hj => mem_blk.2 hj)
    have ho5 := hw5.boxed (fun hx => by have := hv5 _ hx; omega) (ho4.alloc (.cells (subC x.o.client q).toArray 90))
    have hbox5 := hw5.boxed (fun hx => by have := hv5 _ hx; omega) (hbox4.alloc (.cells (subC x.o.client q).toArray 90))
    obtain ⟨a5, c5, rfl⟩ := own_slice r5
    refine hK _ _ ⟨⟨fun _ => ho5, fun _ => hbox5, trivial⟩, ?_⟩
    clear hK K
    have hwW : Wrote (blk (.slice av pre.length cv)) W w5 := ((Wrote.of_below (M := _) (undrew hb4)).trans (Wrote.alloc _ _ _)).trans hw5
    have k5 := ho5.cell
    have f5 := ho5.frozen
    have r5 := hid r5
    have ho5 := hid ho5
    have hbox5 := hid hbox5
    have hwW := hid hwW
    have hv5 := hid hv5
    clear n5 g5 hw5 hr4 ho4 hbox4 hb4
    refine stepQ 8 rfl (by kernel_rfl) (by decide) (by kernel_rfl) fun K hK => ?_
    simp only [List.getElem_toArray, List.getElem_cons_zero, List.getElem_cons_succ]
    go_simp
    refine hK _ _ ⟨⟨(fun h => by cases h), fun _ => hbox5.out.other (by simp) _, trivial⟩, ?_⟩
    clear hK K
    refine doneQ (by kernel_rfl) (hKQ.out _ _ ?_)
    clear hKQ KQ
    gi_wp2
    have h1 := H.out.box.lt
    have h2 := H.out.wm.lt
    have hall : Wrote ((w.heap.size + 1) :: blk (.slice av pre.length cv)) W (w5.setCell ⟨w.heap.size + 1, 0, none⟩ (.slice a5 (pre.length + 1) c5)) := (hwW.out.sub (fun x hx => List.mem_cons_of_mem _ hx)).trans (Wrote.setCell _ _ (by simp) _)
    have hMr : ∀ y ∈ (w.heap.size + 1) :: blk (.slice av pre.length cv), y = w.heap.size + 1 ∨ w.heap.size + 5 ≤ y := fun y hy => by
      rcases List.mem_cons.1 hy with h | h
      · exact .inl h
      · exact .inr (hv5.out y h)
    rw [hsz]
    refine ⟨Keep.of_wrote hall (Nat.zero_le _) (by simp; omega) (fun _ _ => Nat.zero_le _) (fun k hk hy => by have := hMr k hy; simp at hk; omega), KpS.of_wrote hall (fun y hy => ⟨fun hk => by have := hMr y hy; simp at hk; omega, fun cs f hcs => ?_⟩) (by simp; omega), ?_⟩
    · rcases List.mem_cons.1 hy with rfl | h
      · have := ho.out.symm.trans hcs
        simp at this
      · obtain ⟨cur, hc⟩ := row_cells hr.out h
        rw [hc] at hcs
        simp at hcs
    · refine ⟨hbox5.out.other (by simp) _, (hwW.out.boxed (fun hx => by have := hv5.out _ hx; omega) hbox2.out).other (by simp) _, hbel.out.trans (hall.below hbel.out.size (fun y hy => by have := hMr y hy; omega)), _, ho5.out.set _, ?_⟩
      have := ownsRow_setCell_below r5.out (a := ⟨w.heap.size + 1, 0, none⟩) (by simp) (.slice a5 (pre.length + 1) c5)
      simpa using this
  case done =>
    rintro xs W rfl hi hl hd
    obtain ⟨v, ho, hr⟩ := hi.out
    obtain ⟨av, cv, rfl⟩ := own_slice hr
    rw [hslen] at hr ho
    have k1 := ho.cell
    have hr := hid hr
    have hbel := hid hi.below
    clear hi ho
    go_wp2_with fail
    refine ret_mark (v := .slice av x.wants.length cv) hd (fun w' hw' => ?_)
    have wp : Wrote [W0.heap.size] W w' := by rw [hw']; exact Wrote.putObj _ _ (by simp) _
    have hr' := not_own hr.out wp (fun y hy hb => by simp only [List.mem_singleton] at hy; have := (hr.out.lt y (mem_blk.1 hb)).1; omega)
    exact ⟨by simp [results, Tryz.results31, go_sem], _, rfl, ownsRow_mono hr' (by omega), hbel.out.trans (wp.below hbel.out.size (by simp; omega))⟩
  case stop => exact fun c pre W _ h => h.elim
end Go.Proofs.YtoinabapaeebfaaGreatDoor
namespace Go.Proofs.YtoinabapaeebfaaGreatDoor
open Go.RowKit Go.Shelf

theorem val_20 : Val 4626322717216342016 80 := ⟨2 ^ 52 + 2 ^ 50, -48, by decide, by decide, by
  obtain ⟨E, hE⟩ : ∃ E : Nat, 1026 = E := ⟨_, rfl⟩
  rw [show ((-48 : Int) + 1074).toNat = 1026 from rfl, show (1072 : Nat) = 46 + 1026 from rfl, Nat.pow_add 2 46 1026, hE]
  generalize (2 : Nat) ^ E = p
  show _ = 80 * (2 ^ 46 * p)
  rw [← Nat.mul_assoc]⟩

set_option maxRecDepth 100000 in
set_option maxHeartbeats 400000 in
theorem law_setup (w : World) : Calls Tryz.prog 20 #[] w fun e w' => e = .returned (.agg #[.int .i64 2, .int .i64 5, .int .i64 3, .int .i64 3]) ∧ Below w.heap.size w w' := by
  go_enter Tryz.func20, Tryz.ntmps20
  go_wp2
  go_returns
  exact ⟨rfl, (Below.refl _ w).alloc (Nat.le_refl _) _⟩

def lX0 : XS := XS.new 2 5 3 3 [99]
def lX1 : XS := { lX0 with clean := true, on := true, keep := 10, heard := 5, will := none }
def lX2 : XS := { lX1 with wants := ins lX1.wants [97] 1 }
def lS2 : SS := (lX2.o.put (lX2.o.row [97] [120] 1 false)).start.all.fin (lX2.o.seq + 1) lX2.o.id
def lX3 : XS := { lX2 with o := lS2.s }
theorem lM0 : sessMay (sessV [99] 0 1) = true := by kernel_rfl
theorem lM1 : subMay (lX1.sub [97] 1) = true := by kernel_rfl
theorem lM2 : subMay (lX2.sub [97] 1) = true := by kernel_rfl
theorem lM3 : putMay (lX2.o.row [97] [120] 1 false) = true := by kernel_rfl
theorem lN : nameR [97] = true := by kernel_rfl
theorem lP : lS2.ps = [⟨3, false, false, 1, [97], [120], 1⟩] := by kernel_rfl
theorem lL2 : look lX2.wants [97] = some 1 := by decide

set_option maxRecDepth 100000 in
set_option maxHeartbeats 4000000 in
theorem known23 (w : World) (hT : TzAt w) : Calls Tryz.prog 22 #[] w fun e w' => e = .returned (.bool true) ∧ Below w.heap.size w w' := by
  have CU := hid law_setup
  go_enter Tryz.func22, Tryz.ntmps22
  go_wp2_with fail
  refine (CU.out _).mono ?_
  rintro e wa ⟨rfl, hba⟩
  go_wp2_with fail
  refine (ses_New 2 5 3 3 [99] wa (hT.below hba) (by decide) (by decide) (by decide) (by decide) (by decide) lM0).mono ?_
  rintro e w0 ⟨S0, rfl, hx0, hst0⟩
  have hx0 : Hid (XB w0 w0.heap.size S0 lX0) := hid hx0
  have hst0 : Hid (Stp [] S0.foot w w0) := hid ((Stp.below hba).trans hst0)
  go_wp2_with fail
  refine (ses_On_nil hx0.out true 10 5 (by decide)).mono ?_
  rintro e w1 ⟨rfl, hx1, hst1⟩
  have hst1 := hid (hst0.out.trans hst1)
  obtain ⟨S1, hS1⟩ : ∃ S1, ({ S0 with wv := none } : XLay) = S1 := ⟨_, rfl⟩
  have hp1 : S0.p = S1.p := by rw [← hS1]
  rw [hS1] at hx1 hst1
  rw [hp1]
  have hx1 : Hid (XB w1 w0.heap.size S1 lX1) := hid hx1
  clear hS1 hp1 hst0 hx0
  go_wp2_with fail
  refine (ses_Want_put hx1.out [97] 1 (by decide) lM1 none rfl (.inl ⟨rfl, by decide⟩)).mono ?_
  rintro e w2 ⟨g2, rfl, d2⟩
  have d2 : Hid (SDid w1 w2 S1 S1 lX2 _ _ _ _) := hid d2
  go_wp2_with fail
  have hA : Hid (Blk (w2.alloc (.cells #[.slice none 0 0, .slice (some ⟨g2, 0, none⟩) 1 1] 53)) w2.heap.size #[.slice none 0 0, .slice (some ⟨g2, 0, none⟩) 1 1] 53) := hid (Blk.new w2 _ _)
  have hAn : w2.heap.size ∉ S1.foot := d2.out.xb.foot_lt (Nat.le_refl _)
  have hxA := hid (d2.out.xb.alloc (.cells #[.slice none 0 0, .slice (some ⟨g2, 0, none⟩) 1 1] 53)).top
  have hstA := hid ((hst1.out.trans d2.out.stp).trans (Stp.below ((Below.refl _ w2).alloc (Nat.le_refl _) (.cells #[.slice none 0 0, .slice (some ⟨g2, 0, none⟩) 1 1] 53))))
  refine (ses_Want_same hxA.out [97] 1 (by decide) lM2 lL2).mono ?_
  rintro e w3 ⟨rfl, hb3⟩
  have hA3 := hid (hA.out.below hb3)
  have hx3 := hid ((hxA.out.below hb3).alloc (.cells didZ 53)).top
  have hst3 := hid ((hstA.out.trans (Stp.below hb3)).trans (Stp.below ((Below.refl _ w3).alloc (Nat.le_refl _) (.cells didZ 53))))
  have hBn : w3.heap.size ∉ S1.foot := (hxA.out.below hb3).foot_lt (Nat.le_refl _)
  have hBB : Hid (Blk (w3.alloc (.cells didZ 53)) w3.heap.size didZ 53) := hid (Blk.new w3 _ _)
  have hA3' := hid (hA3.out.alloc (.cells didZ 53))
  clear hA hxA hstA hx1 hst1
  unfold didZ at *
  go_wp2_with fail
  refine (ses_Give_on hx3.out [97] [120] 1 false (by decide) lN (by decide) (by decide) lM3 (by decide) (by decide) rfl).mono ?_
  rintro e w4 ⟨vp, vc, L4, rfl, d4⟩
  have d4 : SDid _ w4 S1 { S1 with o := L4 } lX3 vp vc lS2.ps _ := d4
  rw [lP] at d4
  have hA4 := hid (hA3'.out.wrote d4.stp.wrote hAn)
  have hB4 := hid (hBB.out.wrote d4.stp.wrote hBn)
  have hst4 := hid (hst3.out.trans d4.stp)
  obtain ⟨ac, nc, cc, rfl⟩ : ∃ a n c, vc = .slice a n c := by obtain ⟨a, c, h⟩ := own_slice d4.chgs; exact ⟨_, _, _, h⟩
  obtain ⟨av, cv, rfl⟩ := own_slice d4.packs
  obtain ⟨g4, rfl, hcap4, hrow4⟩ := own_range PackV.cells PackV.len (l := [⟨3, false, false, 1, [97], [120], 1⟩]) (n := [(⟨3, false, false, 1, [97], [120], 1⟩ : PackV)].length) rfl d4.packs (k := 0) rfl
  have hg4 := (d4.packs.lt g4 rfl).2
  have hbody : w4.cell? ⟨g4, 5, none⟩ = some (.string ⟨#[120]⟩) := hrow4 5 _ rfl
  have hx4 := hid d4.xb
  clear hA3 hA3' hBB hx3 hst3 hrow4 d4
  have hx5 := hid ((hx4.out.alloc (.cells #[.slice (some ⟨g4, 0, none⟩) 1 cv, .slice ac nc cc] 53)).top)
  have hC5 : Hid (Blk (w4.alloc (.cells #[.slice (some ⟨g4, 0, none⟩) 1 cv, .slice ac nc cc] 53)) w4.heap.size #[.slice (some ⟨g4, 0, none⟩) 1 cv, .slice ac nc cc] 53) := hid (Blk.new w4 _ _)
  have hA5 := hid (hA4.out.alloc (.cells #[.slice (some ⟨g4, 0, none⟩) 1 cv, .slice ac nc cc] 53))
  have hB5 := hid (hB4.out.alloc (.cells #[.slice (some ⟨g4, 0, none⟩) 1 cv, .slice ac nc cc] 53))
  have hbody5 := cell_alloc hbody (.cells #[.slice (some ⟨g4, 0, none⟩) 1 cv, .slice ac nc cc] 53)
  have hst5 := hid (hst4.out.trans (Stp.below ((Below.refl _ w4).alloc (Nat.le_refl _) (.cells #[.slice (some ⟨g4, 0, none⟩) 1 cv, .slice ac nc cc] 53))))
  go_wp2_with fail
  replace hbody5 := hid hbody5
  refine (ses_Due hx5.out (by decide) (by decide)).mono ?_
  rintro e w6 ⟨b, rfl, hd, hb6⟩
  have hv : Val b 80 := by
    unfold DueB at hd
    rw [if_pos (show lX3.runs = true from rfl)] at hd
    exact hd
  have hord : FloatKind.f64.format.order b 4626322717216342016 = some .eq := (val_order hv val_20).trans rfl
  have hx6 := hid (hx5.out.below hb6)
  clear hd
  go_wp2_with fail
  refine (ses_Late hx6.out (by decide) (by decide) 20 (by decide) (by decide)).mono ?_
  rintro e w7 ⟨rfl, hb7⟩
  have hx7 := hid (hx6.out.below hb7)
  have e20 : (lX3.runs && decide (lX3.due < 4 * (20 : Int).toNat)) = false := by kernel_rfl
  rw [e20]
  go_wp2_with fail
  refine (ses_Late hx7.out (by decide) (by decide) 21 (by decide) (by decide)).mono ?_
  rintro e w8 ⟨rfl, hb8⟩
  have hx8 := hid (hx7.out.below hb8)
  have e21 : (lX3.runs && decide (lX3.due < 4 * (21 : Int).toNat)) = true := by kernel_rfl
  rw [e21]
  have hb58 : Below (w4.alloc (.cells #[.slice (some ⟨g4, 0, none⟩) 1 cv, .slice ac nc cc] 53)).heap.size (w4.alloc (.cells #[.slice (some ⟨g4, 0, none⟩) 1 cv, .slice ac nc cc] 53)) w8 := (hb6.trans (hb7.mono hb6.size)).trans (hb8.mono (Nat.le_trans hb6.size hb7.size))
  have a1 : w8.cell? ⟨w2.heap.size, 1, none⟩ = some (.slice (some ⟨g2, 0, none⟩) 1 1) := (hA5.out.below hb58).cell 1
  have a2 : w8.cell? ⟨w3.heap.size, 1, none⟩ = some (.slice none 0 0) := (hB5.out.below hb58).cell 1
  have a3 : w8.cell? ⟨w4.heap.size, 0, none⟩ = some (.slice (some ⟨g4, 0, none⟩) 1 cv) := (hC5.out.below hb58).cell 0
  have a4 : w8.cell? ⟨g4, 5, none⟩ = some (.string ⟨#[120]⟩) := (hb58.cell (p := ⟨g4, 5, none⟩) (by simp; omega)).trans hbody5.out
  have CC := hid (ses_Client hx8.out)
  have CL := hid (fun W (hb : Below w8.heap.size w8 W) => ses_Clean (hx8.out.below hb))
  have CI := hid (fun W (hb : Below w8.heap.size w8 W) => ses_IsOn (hx8.out.below hb))
  go_wp2_with (first
    | (go_at_call 62; refine CC.out.mono ?_; rintro e w9 ⟨rfl, hb9⟩)
    | (go_at_call 39; refine (CL.out _ hb9).mono ?_; rintro e w10 ⟨rfl, rfl⟩)
    | (go_at_call 38; refine (CI.out _ hb9).mono ?_; rintro e w11 ⟨rfl, rfl⟩))
  go_ret
  have hbw := hst5.out.wrote.below (Nat.le_refl _) (by simp)
  have hbl := hb58.trans (hb9.mono hb58.size)
  exact ⟨rfl, hbw.trans (hbl.mono hbw.size)⟩
end Go.Proofs.YtoinabapaeebfaaGreatDoor
