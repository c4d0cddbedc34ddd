/- Parts of the proof of SessionRows: contracts of functions that it reaches, and plain lemmas. No condition of their own. -/
import Derived.Test.YtoinabapaeebfaaGreatDoorPk37
import Derived.Test.YtoinabapaeebfaaGreatDoorPk28
import Derived.Test.YtoinabapaeebfaaGreatDoorPk20
import Derived.Test.YtoinabapaeebfaaGreatDoorPk32
import Derived.Shelf.SlSortCmp.Whole1
import Derived.Test.YtoinabapaeebfaaGreatDoorProg
import Derived.Test.YtoinabapaeebfaaGreatDoorPk13
import Derived.Test.YtoinabapaeebfaaGreatDoorPk15
import Derived.Lib.OwnBridge
set_option linter.unusedSimpArgs false
set_option linter.unusedVariables false
set_option maxRecDepth 100000
set_option maxHeartbeats 8000000
namespace Go.Proofs.YtoinabapaeebfaaGreatDoor
open Go.RowKit Go.Shelf
section
attribute [local go_sem] Oper.semAt_some
def subCl (x : XS) (q : List UInt8 × Int) : List Value := (x.sub q.1 q.2).cl
structure RoI (w : World) (p g0 : Nat) (x : XS) (pre : WL) (W : World) : Prop where
 box : Boxed W w.heap.size 55 (.pointer (some ⟨p, 0, none⟩))
 box2 : Boxed W (g0 + 2) 55 (.pointer (some ⟨p, 0, none⟩))
 below : Below w.heap.size w W
 out : ∃ v, Boxed W (g0 + 1) 34 v /\ W.ownsRow w.heap.size 33 9 v (1 + pre.length) (x.o.session.cl ++ pre.flatMap (subCl x)) /\ ∀ y ∈ blk v, y = g0 \/ g0 + 5 <= y
theorem RoI.wrote {w : World} {p g0 : Nat} {x : XS} {pre : WL} {A A' : World} {M : List Nat} (h : RoI w p g0 x pre A) (hw : Wrote M A A') (hg : w.heap.size < g0) (hM : ∀ y ∈ M, g0 + 3 <= y /\ y < g0 + 5) : RoI w p g0 x pre A' := by
 obtain ⟨b1, b2, b3, v, o1, o2, o3⟩ := h
 have hn : ∀ y, (y = w.heap.size \/ y = g0 \/ y = g0 + 1 \/ y = g0 + 2 \/ g0 + 5 <= y) -> y ∉ M := fun y hy hm => by have := hM y hm; omega
 exact ⟨hw.boxed (hn _ (by simp)) b1, hw.boxed (hn _ (by simp)) b2, b3.trans (hw.below b3.size (fun y hy => by have := hM y hy; omega)), v, hw.boxed (hn _ (by simp)) o1, not_own o2 hw (fun y hy hb => hn y (by rcases o3 y hb with h | h <;> simp [h]) hy), o3⟩
theorem sortI_len (ids : List Nat) : (sortI ids).length <= 65536 := by
 unfold sortI
 have := List.length_filter_le (fun n => decide (n ∈ ids)) (List.range 65536)
 simpa using this
def inCl (x : XS) (i : Nat) : List Value := (x.inr i).cl
structure RoL (w : World) (p g0 : Nat) (x : XS) (n2 : Nat) (xs2 : List Value) (vi : Value) (nid : Nat) (W : World) (k : Nat) (a : Option Addr) (c : Nat) : Prop where
 box : Boxed W w.heap.size 55 (.pointer (some ⟨p, 0, none⟩))
 mark : W.heap[g0 + 3]? = some (.deferred (some []))
 below : Below w.heap.size w W
 out : Boxed W (g0 + 1) 34 (.slice a (n2 + k) c)
 row : W.ownsRow w.heap.size 33 9 (.slice a (n2 + k) c) (n2 + k) (xs2 ++ ((sortI x.ids).take k).flatMap (inCl x))
 far : ∀ y ∈ blk (.slice a (n2 + k) c), y = g0 \/ g0 + 4 <= y
 ids : W.ownsRow 0 2 1 vi nid (idCells x.ids)
theorem sesT_Rows {w : World} {B : Nat} {S : XLay} {x : XS} (h : XT w B S x) (hkl : ∀ q ∈ x.wants, q.1.length <= 1000000) :
  Calls Tryz.prog 34 #[.pointer (some ⟨S.p, 0, none⟩)] w fun e w' => ∃ v, e = .returned v /\ RowsAt w' w.heap.size v x.rows /\ Below w.heap.size w w' := by
 have hb0 := (Below.refl w.heap.size w).alloc (Nat.le_refl _) (.cells #[.pointer (some ⟨S.p, 0, none⟩)] 55)
 have CN := hid (sesT_none (h.below hb0))
 have CS := hid (out_Session (h.ob.below hb0))
 have H := hid h;have k0 : (w.alloc (.cells #[.pointer (some ⟨S.p, 0, none⟩)] 55)).cell? ⟨S.p, 0, none⟩ = some (.pointer (some ⟨S.o.p, 0, none⟩)) := (h.below hb0).box.cell 0
 refine calls_marks Tryz.func34 rfl ?_
 simp only [Tryz.ntmps34, List.size_toArray, List.length_cons, List.length_nil, Nat.reduceAdd, Nat.reduceSub, Array.replicate_succ, Array.replicate_zero, List.push_toArray, List.append_toArray, List.nil_append, List.cons_append]
 go_wp2_with (first
  | (go_at_call 60; refine CN.out.mono ?_; rintro e w0 ⟨rfl, rfl⟩)
  | (go_at_call 14; refine CS.out.mono ?_; rintro e w1 ⟨rfl, hb1⟩; have hx1 := hid (boxed_below (Boxed.new w 55 (.pointer (some ⟨S.p, 0, none⟩))) hb1); have kb := fun o1 o2 => ((hx1.out.alloc o1).alloc o2).cell)
  | (refine wpList_plain rfl fun _ hK => wp_slice_one _ rfl eRow (by decide) (by decide) (.agg x.o.session.cl.toArray) rfl rfl (hK _ _ ?_)))
 obtain ⟨g0, hg0⟩ : ∃ g0, w1.heap.size = g0 := ⟨_, rfl⟩
 have hg0l : w.heap.size < g0 := by have := hb1.size; simp at this; omega
 have hB1 := hid (hb0.trans (hb1.mono (by simp)))
 obtain ⟨W2, hW2⟩ : ∃ W2, (w1.alloc (.cells x.o.session.cl.toArray 33)).alloc (.cells #[.slice (some ⟨w1.heap.size, 0, none⟩) 1 1] 34) = W2 := ⟨_, rfl⟩
 have hrow2 : W2.ownsRow w.heap.size 33 9 (.slice (some ⟨g0, 0, none⟩) 1 1) 1 x.o.session.cl := by
  rw [<- hW2, <- hg0]
  exact ⟨by simp [RowV.cllen], .inr ⟨w1.heap.size, 1, _, rfl, by omega, (Blk.new w1 _ _).alloc _, by simp, by decide, by simp [RowV.cllen], by rw [List.take_of_length_le (by simp [RowV.cllen])]⟩⟩
 have hrb2 : Boxed W2 (g0 + 1) 34 (.slice (some ⟨g0, 0, none⟩) 1 1) := by rw [<- hW2, <- hg0]; exact Blk.new_at _ _ _ _ (by simp)
 have hb2 : Below w.heap.size w W2 := by rw [<- hW2]; exact (hB1.out.alloc (by omega) _).alloc (by simp; omega) _
 have hbx2 : Boxed W2 w.heap.size 55 (.pointer (some ⟨S.p, 0, none⟩)) := by rw [<- hW2]; exact (hx1.out.alloc _).alloc _
 have hsz2 : W2.heap.size = g0 + 2 := by rw [<- hW2, <- hg0]; simp
 rw [hW2]
 clear kb hW2;refine (ses_filters S.p).mono ?_
 rintro e W0 ⟨rfl, hW0⟩
 have hsz : W0.heap.size = g0 + 3 := by rw [<- hW0]; simp [hsz2]
 have hb0' : Below w.heap.size w W0 := by rw [<- hW0]; exact hb2.alloc (by omega) _
 have b1 : Boxed W0 w.heap.size 55 (.pointer (some ⟨S.p, 0, none⟩)) := by rw [<- hW0]; exact hbx2.alloc _
 have b2 : Boxed W0 (g0 + 1) 34 (.slice (some ⟨g0, 0, none⟩) 1 1) := by rw [<- hW0]; exact hrb2.alloc _
 have b3 : Boxed W0 (g0 + 2) 55 (.pointer (some ⟨S.p, 0, none⟩)) := by rw [<- hW0, <- hsz2]; exact Boxed.new _ _ _
 have r0 : W0.ownsRow w.heap.size 33 9 (.slice (some ⟨g0, 0, none⟩) 1 1) 1 x.o.session.cl := by rw [<- hW0]; exact ownsRow_below hrow2 ((Below.refl _ _).alloc (Nat.le_refl _) _)
 clear hW0 hrow2 hrb2 hb2 hbx2;have hp0 := H.out.box.below hb0'
 have hm0 := H.out.wm.below hb0'
 have hwl : x.wants.length <= 100 := by have := H.out.ok.wants; have := H.out.ok.subs; omega
 have hslen := sortW_len x.wants
 have hsub1 : ∀ pre q, (∃ i, pre = (sortW x.wants).take i /\ (sortW x.wants)[i]? = some q) -> pre.length < 100 := by
  rintro pre q ⟨i, rfl, hi⟩
  have := (List.getElem?_eq_some_iff.1 hi).1
  simp
  omega
 have hsub1 := hid hsub1;rw [hsz2]
 go_wp2_with fail
 refine wp_rangeH (α := List UInt8 × Int) (gf := 121) (lb := #[.pointer (some ⟨g0 + 2, 0, none⟩)]) rfl (enters_of Tryz.func121 (by kernel_rfl) rfl)
  (ses_filters1 (g0 + 2) S.p S.m _ x.wants W0 hp0 rfl hm0 b3 hkl (by omega)) (fun h k => h.trans k) ?hKb ?hAb (fun _ => rfl) (RoI w S.p g0 x) (fun _ _ _ => False) ?hI ?hIx ?hIo ?hIxo ?h0
  (fun pre q a' W => (∃ i, pre = (sortW x.wants).take i /\ (sortW x.wants)[i]? = some q) /\ ∃ t8 t9 t10 t11 t12 t13 t14 t15 t16 t17 t18 t19, a' = { tmps := #[.pointer (some ⟨S.p, 0, none⟩), .pointer (some ⟨w.heap.size, 0, none⟩), .slice none 0 0, .pointer (some ⟨g0 + 1, 0, none⟩), wStr q.1, .int .i64 q.2, undef, undef, t8, t9, t10, t11, t12, t13, t14, t15, t16, t17, t18, t19, undef, undef, undef, undef, undef, undef, undef, undef, undef, undef, undef, undef, undef, undef, undef, undef, undef, undef, undef, undef, undef, undef, undef, undef, undef, undef, undef, undef, undef, undef, undef, undef], defers := [] })
  ?hAx ?assign ?body ?done ?stop
 case hKb =>
  rintro W o hl ⟨r, hr⟩
  rw [hsz] at hl hr ⊢
  have h1 := H.out.box.lt
  have h2 := H.out.wm.lt
  refine ⟨by simp [World.putObj], fun k hk => World.putObj_heap_other (by simp at hk; omega), fun k cs f hk => ?_⟩
  by_cases he : k = g0 + 3 + 1
  ·subst he
   rw [hr] at hk
   cases hk
  ·rw [World.putObj_heap_other (by omega)]
   exact hk
 case hAb =>
  intro A A' hw hl
  exact ⟨hw.size, hw.block _ (by omega) (by simp), hw.block _ (by omega) (by simp)⟩
 case hI => exact fun s A A' h hw => h.wrote hw hg0l (by simp)
 case hIx => exact fun c s A A' h hw => h
 case hIo =>
  rintro s A o h hl ⟨r, hr⟩
  rw [hsz] at hl hr ⊢
  exact h.wrote (Wrote.putObj (M := [g0 + 3 + 1]) A _ (by simp) o) hg0l (by
   intro y hy
   simp only [List.mem_singleton] at hy
   subst hy;omega)
 case hIxo => exact fun c s A o h hl _ => h
 case h0 =>
  intro r
  refine ⟨(b1.alloc _).alloc _, (b3.alloc _).alloc _, (hb0'.alloc (by omega) _).alloc (by simp; omega) _, .slice (some ⟨g0, 0, none⟩) 1 1, (b2.alloc _).alloc _, by simpa using ownsRow_below (ownsRow_below r0 ((Below.refl _ _).alloc (Nat.le_refl _) _)) ((Below.refl _ _).alloc (Nat.le_refl _) _), by simp [blk, Value.ownBlock]⟩
 case hAx => exact fun pre q a' A o h hl => h
 case assign =>
  intro pre q W K hl hi hx hK
  simp only [encF]
  gi_wp2
  refine hK _ _ (Keep.refl _ _ _) (KpS.refl _ _) hi ⟨hx, _, _, _, _, _, _, _, _, _, _, _, _, rfl⟩
 case body =>
  rintro pre q a' W hl hi ⟨hx, t8, t9, t10, t11, t12, t13, t14, t15, t16, t17, t18, t19, rfl⟩
  obtain ⟨v, ho, hr, hfar⟩ := hi.out
  obtain ⟨av, cv, rfl⟩ := own_slice hr
  have hlp := hsub1.out pre q hx
  have hbel := hi.below
  have hbox := hi.box
  have hbox2 := hid hi.box2;rw [hsz] at hl
  have CC := sesT_sub (H.out.below hbel).drew q.1 q.2
  obtain ⟨sv, hsv⟩ : ∃ sv, (x.sub q.1 q.2).vals = sv := ⟨_, rfl⟩
  have hsl : (subCl x q).toArray = sv := by rw [<- hsv]; simp [subCl, RowV.cl]
  rw [hsv] at CC
  have CC := hid CC;have ho := hid ho;have hr := hid hr;have hfar := hid hfar;have hbox := hid hbox;have hbel := hid hbel;unfold wStr
  clear hi hx hsv;gi_wp2
  have ho' : Boxed W.drew (g0 + 1) 34 (.slice av (1 + pre.length) cv) := ho.out
  have hbox' : Boxed W.drew w.heap.size 55 (.pointer (some ⟨S.p, 0, none⟩)) := hbox.out
  have ho' := hid ho';have hbox' := hid hbox';refine regionQIn [(7, fun w' => Boxed w' (g0 + 1) 34 (.slice av (1 + pre.length) cv)), (1000, fun w' => Boxed w' w.heap.size 55 (.pointer (some ⟨S.p, 0, none⟩)))] (by kernel_rfl) (by kernel_rfl) ⟨ho'.out, hbox'.out, trivial⟩ fun KQ hKQ => ?_
  refine lR 0 0 rfl rfl rfl rfl (fun w' hf => by (have k0 := hf.cell; go_simp <;> with_reducible rfl)) ?_
  simp only [PT];refine lR 1 1 rfl rfl rfl rfl (fun w' hf => by (have k0 := hf.cell; go_simp <;> with_reducible rfl)) ?_
  simp only [PT];refine tQ [2, 3] ?_;refine sQ 4 fun K hK => ?_;simp only [GO];go_simp;refine CC.out.mono ?_
  rintro e w4 ⟨rfl, hb4⟩
  have ho4 := boxed_below ho'.out hb4
  have hbox4 := boxed_below hbox'.out hb4
  have hr4 := ownsRow_below (show W.drew.ownsRow _ _ _ _ _ _ from hr.out) hb4
  have hbel4 := hbel.out.drew.trans (hb4.mono hbel.out.size)
  have hs4 : W.heap.size <= w4.heap.size := hb4.size
  refine hK _ _ ⟨⟨fun _ => ho4, fun _ => hbox4, trivial⟩, ?_⟩
  clear hK K;try simp only [PT]
  refine sQ 5 fun K hK => ?_;simp only [GO];refine wp_slice_one _ rfl eRow (by decide) (by decide) (.agg sv) rfl (by show sv.size = 9; rw [<- hsl]; simp [subCl, RowV.cllen]) ?_
  refine hK _ _ ⟨⟨fun _ => ho4.alloc _, fun _ => hbox4.alloc _, trivial⟩, ?_⟩
  clear hK K;try simp only [PT]
  refine sQ 6 fun K hK => ?_;simp only [GO];rw [<- hsl]
  refine wp_append_grp _ _ rfl eRow (by decide) w.heap.size (.slice av (1 + pre.length) cv) (1 + pre.length) (x.o.session.cl ++ pre.flatMap (subCl x)) rfl (ownsRow_below hr4 ((Below.refl w4.heap.size w4).alloc (Nat.le_refl _) _)) w4.heap.size (subCl x q) 33 rfl (Blk.new _ _ _) rfl (RowV.one _) (by omega) (by omega) (by have := hbel4.size; simp; omega) fun v' w5 r5 g5 n5 => ?_
  have hv5 : ∀ y ∈ blk (.slice av (1 + pre.length) cv), y = g0 \/ g0 + 5 <= y := hfar.out
  have hw5 : Wrote (blk (.slice av (1 + pre.length) cv)) (w4.alloc (.cells (subCl x q).toArray 33)) w5 := Wrote.of_grown g5 (fun j hj => mem_blk.2 hj)
  have ho5 := hw5.boxed (fun hx => by have := hv5 _ hx; omega) (ho4.alloc (.cells (subCl x q).toArray 33))
  have hbox5 := hw5.boxed (fun hx => by have := hv5 _ hx; omega) (hbox4.alloc (.cells (subCl x q).toArray 33))
  obtain ⟨a5, c5, rfl⟩ := own_slice r5
  refine hK _ _ ⟨⟨fun _ => ho5, fun _ => hbox5, trivial⟩, ?_⟩
  clear hK K;have hwW : Wrote (blk (.slice av (1 + pre.length) cv)) W w5 := ((Wrote.of_below (M := _) (undrew hb4)).trans (Wrote.alloc _ _ _)).trans hw5
  have k5 := ho5.cell
  have f5 := ho5.frozen
  have n5 : ∀ y ∈ blk (.slice a5 (1 + pre.length + 1) c5), y = g0 \/ g0 + 5 <= y := fun y hy => by
   rcases n5 y (mem_blk.1 hy) with h1 | h1
   ·exact hv5 y (mem_blk.2 h1)
   ·simp at h1; omega
  have n5 := hid n5;have r5 := hid r5;have ho5 := hid ho5;have hbox5 := hid hbox5;have hwW := hid hwW;have hv5 := hid hv5;clear g5 hw5 hr4 ho4 hbox4 hb4;try simp only [PT]
  refine sQ 7 fun K hK => ?_;simp only [GO];go_simp;refine hK _ _ ⟨⟨(fun h => by cases h), fun _ => hbox5.out.other (by simp <;> omega) _, trivial⟩, ?_⟩
  clear hK K;refine dQ (hKQ.out _ _ ?_);clear hKQ KQ;gi_wp2
  have h1 := H.out.box.lt
  have h2 := H.out.wm.lt
  have hall : Wrote ((g0 + 1) :: blk (.slice av (1 + pre.length) cv)) W (w5.setCell ⟨g0 + 1, 0, none⟩ (.slice a5 (1 + pre.length + 1) c5)) := (hwW.out.sub (fun x hx => List.mem_cons_of_mem _ hx)).trans (Wrote.setCell _ _ (by simp) _)
  have hMr : ∀ y ∈ (g0 + 1) :: blk (.slice av (1 + pre.length) cv), y = g0 + 1 \/ y = g0 \/ g0 + 5 <= y := fun y hy => by
   rcases List.mem_cons.1 hy with h | h
   ·exact .inl h
   ·exact .inr (hv5.out y h)
  rw [hsz]
  refine ⟨Keep.of_wrote hall (Nat.zero_le _) (by simp; omega) (fun _ _ => Nat.zero_le _) (fun k hk hy => by have := hMr k hy; simp at hk; omega), KpS.of_wrote hall (fun y hy => ⟨fun hk => by have := hMr y hy; simp at hk; omega, fun cs f hcs => ?_⟩) (by simp; omega), ?_⟩
  ·rcases List.mem_cons.1 hy with rfl | h
   ·have := ho.out.symm.trans hcs
    simp at this
   ·obtain ⟨cur, hc⟩ := row_cells hr.out h
    rw [hc] at hcs
    simp at hcs
  ·refine ⟨hbox5.out.other (by simp <;> omega) _, (hwW.out.boxed (fun hx => by have := hv5.out _ hx; omega) hbox2.out).other (by simp) _, hbel.out.trans (hall.below hbel.out.size (fun y hy => by have := hMr y hy; omega)), _, ho5.out.set _, ?_, ?_⟩
   ·have := not_own r5.out (Wrote.setCell (M := [g0 + 1]) w5 ⟨g0 + 1, 0, none⟩ (by simp) (.slice a5 (1 + pre.length + 1) c5)) (fun y hy hb => by have := n5.out y hb; simp at hy; omega)
    simpa [Nat.add_assoc] using this
   ·simpa [Nat.add_assoc] using n5.out
 case done =>
  rintro xs W rfl hi hl hd
  obtain ⟨v, ho, hr, hfar⟩ := hi.out
  obtain ⟨av, cv, rfl⟩ := own_slice hr
  rw [hsz] at hl hd
  obtain ⟨n1, hn1⟩ : ∃ n1, 1 + (sortW x.wants).length = n1 := ⟨_, rfl⟩
  rw [hn1] at ho hr hfar
  have hn1l : n1 <= 101 := by omega
  obtain ⟨xs1, hxs1⟩ : ∃ xs1, x.o.session.cl ++ (sortW x.wants).flatMap (subCl x) = xs1 := ⟨_, rfl⟩
  rw [hxs1] at hr
  have hbel := hid hi.below;have hbox := hid hi.box;have hX := hid (H.out.below hbel.out)
  have COR := hid (out_Rows hX.out.ob.drew)
  have k0 : W.cell? ⟨S.p, 0, none⟩ = some (.pointer (some ⟨S.o.p, 0, none⟩)) := hX.out.box.cell 0
  have ho := hid ho;have hr := hid hr;have hd := hid hd;have hfar := hid hfar;clear hi;replace hn1 := hid hn1;replace hxs1 := hid hxs1;replace hslen := hid hslen;clear k0;go_wp2_with fail
  refine regionQ [(7, fun w' => Boxed w' (g0 + 1) 34 (.slice av n1 cv)), (1000, fun w' => Boxed w' w.heap.size 55 (.pointer (some ⟨S.p, 0, none⟩))), (1000, fun w' => w'.cell? ⟨S.p, 0, none⟩ = some (.pointer (some ⟨S.o.p, 0, none⟩)))] (by kernel_rfl) ⟨ho.out, hbox.out, hX.out.box.cell 0, trivial⟩ fun KQ hKQ => ?_
  refine lR 0 0 rfl rfl rfl rfl (fun w' hf => by (have k0 := hf.cell; go_simp <;> with_reducible rfl)) ?_
  simp only [PT];refine lR 1 1 rfl rfl rfl rfl (fun w' hf => by (have k0 := hf.cell; go_simp <;> with_reducible rfl)) ?_
  simp only [PT];refine nQ 2 ?_;refine tQ [3] ?_;refine lQ 4 2 ?_;refine sQ 5 fun K hK => ?_;simp only [GO];go_simp;refine COR.out.mono ?_
  rintro e w4 ⟨u, rfl, hu, hb4⟩
  unfold RowsAt at hu
  obtain ⟨au, cu, rfl⟩ := own_slice hu
  have ho4 := hid (boxed_below (show Boxed W.drew _ _ _ from ho.out) hb4)
  have hbox4 := hid (boxed_below (show Boxed W.drew _ _ _ from hbox.out) hb4)
  have hr4 := hid (ownsRow_below (show W.drew.ownsRow _ _ _ _ _ _ from hr.out) hb4)
  have hbel4 := hid (hbel.out.drew.trans (hb4.mono hbel.out.size))
  have hs4 : W.heap.size <= w4.heap.size := hb4.size
  have hd4 := hid ((hb4.block (g0 + 3) (by have := ho.out.lt; simp; omega)).trans hd.out)
  have hol := hid H.out.ob.ok.room;have hu := hid hu;refine hK _ _ ⟨⟨fun _ => ho4.out, fun _ => hbox4.out, fun _ => (H.out.below hbel4.out).box.cell 0, trivial⟩, ?_⟩
  clear hK K hb4;try simp only [PT]
  refine sQ 6 fun K hK => ?_;simp only [GO];refine wp_append_rows _ _ rfl eRow (by decide) w.heap.size (.slice av n1 cv) n1 xs1 rfl hr4.out _ (.slice au x.o.l.length cu) _ _ rfl hu.out (by intro y hy; obtain ⟨p, -, hp⟩ := List.mem_flatMap.1 hy; exact p.one y hp) (by have := hol.out; omega) (by have := hol.out; omega) hbel4.out.size fun v' w5 r5 g5 n5 => ?_
  have hv5 : ∀ y ∈ blk (.slice av n1 cv), y = g0 \/ g0 + 5 <= y := hfar.out
  have hw5 : Wrote (blk (.slice av n1 cv)) w4 w5 := Wrote.of_grown g5 (fun j hj => mem_blk.2 hj)
  have ho5 := hw5.boxed (fun hx => by have := hv5 _ hx; omega) ho4.out
  have hbox5 := hw5.boxed (fun hx => by have := hv5 _ hx; omega) hbox4.out
  obtain ⟨a5, c5, rfl⟩ := own_slice r5
  have hbel5 := hid (hbel4.out.trans (hw5.below hbel4.out.size (fun y hy => by have := hv5 y hy; omega)))
  have hd5 := hid ((hw5.block (g0 + 3) (by have := ho.out.lt; omega) (fun hx => by have := hv5 _ hx; omega)).trans hd4.out)
  refine hK _ _ ⟨⟨fun _ => ho5, fun _ => hbox5, fun _ => (H.out.below hbel5.out).box.cell 0, trivial⟩, ?_⟩
  clear hK K;have k5 := ho5.cell
  have f5 := ho5.frozen
  have n5 : ∀ y ∈ blk (.slice a5 (n1 + x.o.l.length) c5), y = g0 \/ g0 + 4 <= y := fun y hy => by
   rcases n5 y (mem_blk.1 hy) with h1 | h1
   ·have := hv5 y (mem_blk.2 h1); omega
   ·omega
  have n5 := hid n5;have r5 := hid r5;have ho5 := hid ho5;have hbox5 := hid hbox5;clear g5 hw5 hv5;try simp only [PT]
  refine sQ 7 fun K hK => ?_;simp only [GO];go_simp;obtain ⟨n2, hn2⟩ : ∃ n2, n1 + x.o.l.length = n2 := ⟨_, rfl⟩
  rw [hn2] at n5 r5 ⊢
  obtain ⟨w6, hw6⟩ : ∃ w6, w5.setCell ⟨g0 + 1, 0, none⟩ (.slice a5 n2 c5) = w6 := ⟨_, rfl⟩
  have hW6 : Wrote [g0 + 1] w5 w6 := by rw [<- hw6]; exact Wrote.setCell _ _ (by simp) _
  have ho6 : Boxed w6 (g0 + 1) 34 (.slice a5 n2 c5) := by rw [<- hw6]; exact ho5.out.set _
  have hbox6 := hW6.boxed (by simp; omega) hbox5.out
  have hbel6 := hid (hbel5.out.trans (hW6.below hbel5.out.size (by simp; omega)))
  have r6 := hid (not_own r5.out hW6 (fun y hy hb => by have := n5.out y hb; simp at hy; omega))
  have hd6 := hid ((hW6.block (g0 + 3) (by have := hbel5.out.size; have := hd5.out; have h9 : g0 + 3 < w5.heap.size := (Array.getElem?_eq_some_iff.1 hd5.out).1; exact h9) (by simp)).trans hd5.out)
  rw [hw6]
  refine hK _ _ ⟨⟨(fun h => by cases h), fun _ => hbox6, fun _ => (H.out.below hbel6.out).box.cell 0, trivial⟩, ?_⟩
  clear hK K;try simp only [PT]
  refine dQ (hKQ.out _ _ ?_);clear hKQ KQ;have hbox6 := hid hbox6;have ho6 := hid ho6;replace hn2 := hid hn2;clear hw6 hW6;obtain ⟨xs2, hxs2⟩ : ∃ xs2, xs1 ++ x.o.l.flatMap RowV.cl = xs2 := ⟨_, rfl⟩
  rw [hxs2] at r6
  replace hxs2 := hid hxs2;have q5 : w6.cell? ⟨S.p, 5, none⟩ = some (.pointer (some ⟨S.ib, 0, none⟩)) := (H.out.below hbel6.out).box.cell 5
  have q0 := hbox6.out.cell
  have CA := hid (in_All S.ib S.sb x.most S.W x.ids w6 (H.out.inb.below hbel6.out) H.out.set (H.out.ob.tz.below hbel6.out))
  go_wp2_with (go_at_call 71; refine CA.out.mono ?_; rintro e w7 ⟨vi, rfl, hvi, hb7⟩; obtain ⟨ai, ci, hai⟩ := own_slice hvi; subst hai)
  clear q5 q0;obtain ⟨nid, hnid⟩ : ∃ nid, (sortI x.ids).length = nid := ⟨_, rfl⟩
  rw [hnid] at hvi ⊢
  have hnl : nid <= 65536 := by rw [<- hnid]; exact sortI_len _
  have h67 := hb7.size
  have hL0 : Hid (RoL w S.p g0 x n2 xs2 (.slice ai nid ci) nid w7 0 a5 c5) := hid ⟨boxed_below hbox6.out hb7, (hb7.block _ (Array.getElem?_eq_some_iff.1 hd6.out).1).trans hd6.out, hbel6.out.trans (hb7.mono hbel6.out.size), boxed_below ho6.out hb7, by simpa using ownsRow_below r6.out hb7, by simpa using n5.out, ownsRow_mono hvi (Nat.zero_le _)⟩
  replace hnid := hid hnid;have hn2l : n2 <= 2000 := by have h1 := hn2.out; have h2 := hol.out; have h3 := hn1.out; omega
  clear hvi hb7 h67;go_loopw [40] (fun i wr => ∃ (k : Nat) (a : Option Addr) (c : Nat), i = .int .i64 k /\ k <= nid /\ Hid (RoL w S.p g0 x n2 xs2 (.slice ai nid ci) nid wr k a c)) (fun i _ => nid - (intOf i).toNat)
  case atStart => exact ⟨0, a5, c5, rfl, Nat.zero_le _, hL0⟩
  case round =>
   obtain ⟨k, a, c, rfl, hk, hL⟩ := hrel
   have hrow := hid hL.out.ids;rcases Nat.lt_or_ge k nid with hlt | hge
   ·have dk : decide ((k : Int) < (nid : Int)) = true := decide_eq_true (by omega)
    obtain ⟨i, hi⟩ : ∃ i, (sortI x.ids)[k]? = some i := ⟨_, List.getElem?_eq_getElem (by have := hnid.out; omega)⟩
    obtain ⟨a8, c8, he8, hc8⟩ := own_cell hL.out.ids
    cases he8
    obtain ⟨g8, hg8, q8⟩ := hc8 k (.int .i64 i) (by simp [idCells, hi])
    subst hg8;have ho := hid hL.out.out;have hbox := hid hL.out.box;have hr := hid hL.out.row;have hbel := hid hL.out.below;have hfar := hid hL.out.far;have hids := hid hL.out.ids;have hmk := hid hL.out.mark;have CI := hid (sesT_in (H.out.below hbel.out).drew (i : Int))
    obtain ⟨sv, hsv⟩ : ∃ sv, (x.inr (i : Int)).vals = sv := ⟨_, rfl⟩
    have hsl : (inCl x i).toArray = sv := by rw [<- hsv]; simp [inCl, RowV.cl]
    rw [hsv] at CI
    have hi := hid hi;clear hrow hL hsv hc8;go_wp2_with fail
    have ho' : Boxed wr.drew (g0 + 1) 34 (.slice a (n2 + k) c) := ho.out
    have hbox' : Boxed wr.drew w.heap.size 55 (.pointer (some ⟨S.p, 0, none⟩)) := hbox.out
    have ho' := hid ho';have hbox' := hid hbox';refine regionQ [(6, fun w' => Boxed w' (g0 + 1) 34 (.slice a (n2 + k) c)), (1000, fun w' => Boxed w' w.heap.size 55 (.pointer (some ⟨S.p, 0, none⟩)))] (by kernel_rfl) ⟨ho'.out, hbox'.out, trivial⟩ fun KQ hKQ => ?_
    refine lR 0 0 rfl rfl rfl rfl (fun w' hf => by (have k0 := hf.cell; go_simp <;> with_reducible rfl)) ?_
    simp only [PT];refine lR 1 1 rfl rfl rfl rfl (fun w' hf => by (have k0 := hf.cell; go_simp <;> with_reducible rfl)) ?_
    simp only [PT];refine tQ [2] ?_;refine sQ 3 fun K hK => ?_;simp only [GO];go_simp;refine CI.out.mono ?_
    rintro e w4 ⟨rfl, hb4⟩
    have ho4 := boxed_below ho'.out hb4
    have hbox4 := boxed_below hbox'.out hb4
    have hr4 := ownsRow_below (show wr.drew.ownsRow _ _ _ _ _ _ from hr.out) hb4
    have hbel4 := hbel.out.drew.trans (hb4.mono hbel.out.size)
    have hs4 : wr.heap.size <= w4.heap.size := hb4.size
    refine hK _ _ ⟨⟨fun _ => ho4, fun _ => hbox4, trivial⟩, ?_⟩
    clear hK K;try simp only [PT]
    refine sQ 4 fun K hK => ?_;simp only [GO];refine wp_slice_one _ rfl eRow (by decide) (by decide) (.agg sv) rfl (by show sv.size = 9; rw [<- hsl]; simp [inCl, RowV.cllen]) ?_
    refine hK _ _ ⟨⟨fun _ => ho4.alloc _, fun _ => hbox4.alloc _, trivial⟩, ?_⟩
    clear hK K;try simp only [PT]
    refine sQ 5 fun K hK => ?_;simp only [GO];rw [<- hsl]
    refine wp_append_grp _ _ rfl eRow (by decide) w.heap.size (.slice a (n2 + k) c) (n2 + k) (xs2 ++ ((sortI x.ids).take k).flatMap (inCl x)) rfl (ownsRow_below hr4 ((Below.refl w4.heap.size w4).alloc (Nat.le_refl _) _)) w4.heap.size (inCl x i) 33 rfl (Blk.new _ _ _) rfl (RowV.one _) (by omega) (by omega) (by have := hbel4.size; simp; omega) fun v' w5 r5 g5 n5 => ?_
    have hv5 : ∀ y ∈ blk (.slice a (n2 + k) c), y = g0 \/ g0 + 4 <= y := hfar.out
    have hw5 : Wrote (blk (.slice a (n2 + k) c)) (w4.alloc (.cells (inCl x i).toArray 33)) w5 := Wrote.of_grown g5 (fun j hj => mem_blk.2 hj)
    have ho5 := hw5.boxed (fun hx => by have := hv5 _ hx; omega) (ho4.alloc (.cells (inCl x i).toArray 33))
    have hbox5 := hw5.boxed (fun hx => by have := hv5 _ hx; omega) (hbox4.alloc (.cells (inCl x i).toArray 33))
    obtain ⟨a5, c5, rfl⟩ := own_slice r5
    refine hK _ _ ⟨⟨fun _ => ho5, fun _ => hbox5, trivial⟩, ?_⟩
    clear hK K;have hwW : Wrote (blk (.slice a (n2 + k) c)) wr w5 := ((Wrote.of_below (M := _) (undrew hb4)).trans (Wrote.alloc _ _ _)).trans hw5
    have k5 := ho5.cell
    have f5 := ho5.frozen
    have hol4 : g0 + 1 < wr.heap.size := ho.out.lt
    have n5 : ∀ y ∈ blk (.slice a5 (n2 + k + 1) c5), y = g0 \/ g0 + 4 <= y := fun y hy => by
     rcases n5 y (mem_blk.1 hy) with h1 | h1
     ·exact hv5 y (mem_blk.2 h1)
     ·have hm9 : g0 + 3 < wr.heap.size := (Array.getElem?_eq_some_iff.1 hmk.out).1
      simp at h1; omega
    have n5 := hid n5;have r5 := hid r5;have ho5 := hid ho5;have hbox5 := hid hbox5;have hwW := hid hwW;have hv5 := hid hv5;clear g5 hw5 hr4 ho4 hbox4 hb4;try simp only [PT]
    refine sQ 6 fun K hK => ?_;simp only [GO];go_simp;refine hK _ _ ⟨⟨(fun h => by cases h), fun _ => hbox5.out.other (by simp <;> omega) _, trivial⟩, ?_⟩
    clear hK K;refine dQ (hKQ.out _ _ ?_);clear hKQ KQ;have hall := hid ((hwW.out.sub (fun x hx => List.mem_cons_of_mem (g0 + 1) hx)).trans (Wrote.setCell (M := (g0 + 1) :: blk (.slice a (n2 + k) c)) w5 ⟨g0 + 1, 0, none⟩ (by simp) (.slice a5 (n2 + k + 1) c5)))
    have hMr : ∀ y ∈ (g0 + 1) :: blk (.slice a (n2 + k) c), y = g0 + 1 \/ y = g0 \/ g0 + 4 <= y := fun y hy => by
     rcases List.mem_cons.1 hy with h | h
     ·exact .inl h
     ·exact .inr (hv5.out y h)
    have hMr := hid hMr
    have hL2 : Hid (RoL w S.p g0 x n2 xs2 (.slice (some ⟨g8, 0, none⟩) nid ci) nid (w5.setCell ⟨g0 + 1, 0, none⟩ (.slice a5 (n2 + k + 1) c5)) (k + 1) a5 c5) := hid (by
     refine ⟨hbox5.out.other (by simp <;> omega) _, ?_, hbel.out.trans (hall.out.below hbel.out.size (fun y hy => by have := hMr.out y hy; omega)), ?_, ?_, ?_, ?_⟩
     ·exact (hall.out.block _ (Array.getElem?_eq_some_iff.1 hmk.out).1 (fun hy => by have := hMr.out _ hy; omega)).trans hmk.out
     ·exact ho5.out.set _
     ·rw [List.take_add_one, hi.out, Option.toList_some, List.flatMap_append, List.flatMap_singleton, <- List.append_assoc]
      exact not_own r5.out (Wrote.setCell (M := [g0 + 1]) w5 ⟨g0 + 1, 0, none⟩ (by simp) (.slice a5 (n2 + k + 1) c5)) (fun y hy hb => by have := n5.out y hb; simp at hy; omega)
     ·exact n5.out
     ·refine not_own hids.out hall.out (fun y hy hb => ?_)
      obtain ⟨cur, hc⟩ := row_cells hids.out hb
      rcases List.mem_cons.1 hy with rfl | hy
      ·have := ho.out.symm.trans hc
       simp at this
      ·obtain ⟨cur2, hc2⟩ := row_cells hr.out hy
       rw [hc] at hc2
       simp at hc2)
    clear hall hMr n5 r5 ho5 hbox5 hwW hv5;go_wp2_with fail
    exact ⟨⟨k + 1, a5, c5, by go_num, by omega, hL2⟩, by simp [intOf]; omega⟩
   ·obtain rfl : k = nid := by omega
    have dk : decide ((k : Int) < (k : Int)) = false := by simp
    have k1 := hL.out.out.cell
    go_wp2
    have hr := hid hL.out.row;have hfar := hid hL.out.far;have hbel := hid hL.out.below;have hmk := hid hL.out.mark;refine ret_mark (v := .slice a (n2 + k) c) hmk.out (fun w' hw' => ?_)
    have wp : Wrote [g0 + 3] wr w' := by rw [hw']; exact Wrote.putObj _ _ (by simp) _
    have hr' := not_own hr.out wp (fun y hy hb => by simp only [List.mem_singleton] at hy; have := hfar.out y hb; omega)
    refine ⟨by simp [results, Tryz.results34, go_sem], _, rfl, ?_, hbel.out.trans (wp.below hbel.out.size (by simp; omega))⟩
    have e1 : x.rows.length = n2 + k := by
     have h1 := hn1.out; have h2 := hn2.out; have h3 := hnid.out
     simp only [XS.rows, List.length_cons, List.length_append, List.length_map]
     omega
    have e2 : x.rows.flatMap RowV.cl = xs2 ++ ((sortI x.ids).take k).flatMap (inCl x) := by
     rw [List.take_of_length_le (by have := hnid.out; omega), <- hxs2.out, <- hxs1.out]
     simp only [XS.rows, List.flatMap_cons, List.flatMap_append, List.flatMap_map, List.append_assoc]
     rfl
    unfold RowsAt
    rw [e1, e2]
    exact hr'
 case stop => exact fun c pre W _ h => h.elim
theorem ses_Rows {w : World} {B : Nat} {S : XLay} {x : XS} (h : XB w B S x) (hkl : ∀ q ∈ x.wants, q.1.length <= 1000000) :
  Calls Tryz.prog 34 #[.pointer (some ⟨S.p, 0, none⟩)] w fun e w' => ∃ v, e = .returned v /\ RowsAt w' w.heap.size v x.rows /\ Below w.heap.size w w' := sesT_Rows h.told hkl
end
section
open Go.Shelf
def Tryz.sortF_ren : Go.Shelf.Ren := ⟨fun | 6 => 55 | 15 => 115 | 14 => 114 | 28 => 179 | 29 => 180 | 20 => 171 | 21 => 172 | 22 => 173 | 23 => 174 | 24 => 175 | 25 => 176 | 26 => 177 | 27 => 178 | 46 => 198 | 47 => 199 | 48 => 200 | 49 => 201 | 50 => 202 | 57 => 216 | n => n, fun | 22 => 121 | 24 => 126 | 25 => 129 | 3 => 3 | 39 => 194 | 0 => 0 | 53 => 255 | 55 => 179 | 4 => 4 | 46 => 249 | 45 => 248 | 50 => 84 | 5 => 5 | 9 => 9 | 66 => 269 | 70 => 273 | 76 => 293 | 77 => 294 | n => n, fun | n => n⟩
theorem Tryz.sortF : Go.Proofs.SlLaysF.n6 Tryz.prog Tryz.sortF_ren := {
 mixed := by kernel_rfl
 f6 := ⟨Tryz.f55.name, by decide, Tryz.func55.trans (congrArg some (by kernel_rfl))⟩
 f14 := ⟨Tryz.f114.name, by decide, Tryz.func114.trans (congrArg some (by kernel_rfl))⟩
 f15 := Tryz.func115.trans (congrArg some (by kernel_rfl))
 f20 := ⟨Tryz.f171.name, by decide, Tryz.func171.trans (congrArg some (by kernel_rfl))⟩
 f21 := ⟨Tryz.f172.name, by decide, Tryz.func172.trans (congrArg some (by kernel_rfl))⟩
 f22 := ⟨Tryz.f173.name, by decide, Tryz.func173.trans (congrArg some (by kernel_rfl))⟩
 f23 := ⟨Tryz.f174.name, by decide, Tryz.func174.trans (congrArg some (by kernel_rfl))⟩
 f24 := ⟨Tryz.f175.name, by decide, Tryz.func175.trans (congrArg some (by kernel_rfl))⟩
 f25 := ⟨Tryz.f176.name, by decide, Tryz.func176.trans (congrArg some (by kernel_rfl))⟩
 f26 := ⟨Tryz.f177.name, by decide, Tryz.func177.trans (congrArg some (by kernel_rfl))⟩
 f27 := ⟨Tryz.f178.name, by decide, Tryz.func178.trans (congrArg some (by kernel_rfl))⟩
 f28 := Tryz.func179.trans (congrArg some (by kernel_rfl))
 f29 := Tryz.func180.trans (congrArg some (by kernel_rfl))
 f46 := ⟨Tryz.f198.name, by decide, Tryz.func198.trans (congrArg some (by kernel_rfl))⟩
 f47 := Tryz.func199.trans (congrArg some (by kernel_rfl))
 f48 := Tryz.func200.trans (congrArg some (by kernel_rfl))
 f49 := ⟨Tryz.f201.name, by decide, Tryz.func201.trans (congrArg some (by kernel_rfl))⟩
 f50 := ⟨Tryz.f202.name, by decide, Tryz.func202.trans (congrArg some (by kernel_rfl))⟩
 f57 := ⟨Tryz.f216.name, by decide, Tryz.func216.trans (congrArg some (by kernel_rfl))⟩
 t0 := Tryz.underlying0
 a0 := Tryz.isAgg0
 z0 := Tryz.sizeOf0
 v0 := Tryz.zeroValue0
 t3 := Tryz.underlying3
 a3 := Tryz.isAgg3
 z3 := Tryz.sizeOf3
 v3 := Tryz.zeroValue3
 t4 := Tryz.underlying4
 a4 := Tryz.isAgg4
 z4 := Tryz.sizeOf4
 v4 := Tryz.zeroValue4
 t5 := Tryz.underlying5
 a5 := Tryz.isAgg5
 z5 := Tryz.sizeOf5
 v5 := Tryz.zeroValue5
 t9 := Tryz.underlying9
 a9 := Tryz.isAgg9
 z9 := Tryz.sizeOf9
 v9 := Tryz.zeroValue9
 t22 := Tryz.underlying121
 a22 := Tryz.isAgg121
 z22 := Tryz.sizeOf121
 v22 := Tryz.zeroValue121
 a24 := Tryz.isAgg126
 z24 := Tryz.sizeOf126
 t25 := Tryz.underlying129
 a25 := Tryz.isAgg129
 z25 := Tryz.sizeOf129
 v25 := Tryz.zeroValue129
 t39 := Tryz.underlying194
 a39 := Tryz.isAgg194
 z39 := Tryz.sizeOf194
 v39 := Tryz.zeroValue194
 t45 := Tryz.underlying248
 a45 := Tryz.isAgg248
 z45 := Tryz.sizeOf248
 v45 := Tryz.zeroValue248
 t46 := Tryz.underlying249
 a46 := Tryz.isAgg249
 z46 := Tryz.sizeOf249
 v46 := Tryz.zeroValue249
 t50 := Tryz.underlying84
 a50 := Tryz.isAgg84
 z50 := Tryz.sizeOf84
 v50 := Tryz.zeroValue84
 t53 := Tryz.underlying255
 a53 := Tryz.isAgg255
 z53 := Tryz.sizeOf255
 v53 := Tryz.zeroValue255
 t55 := Tryz.underlying179
 a55 := Tryz.isAgg179
 z55 := Tryz.sizeOf179
 v55 := Tryz.zeroValue179
 t66 := Tryz.underlying269
 a66 := Tryz.isAgg269
 z66 := Tryz.sizeOf269
 v66 := Tryz.zeroValue269
 t70 := Tryz.underlying273
 a70 := Tryz.isAgg273
 z70 := Tryz.sizeOf273
 v70 := Tryz.zeroValue273
 t76 := Tryz.underlying293
 a76 := Tryz.isAgg293
 z76 := Tryz.sizeOf293
 v76 := Tryz.zeroValue293
 t77 := Tryz.underlying294
 a77 := Tryz.isAgg294
 z77 := Tryz.sizeOf294
 v77 := Tryz.zeroValue294 }
end
section
open Go.RowKit Go.Shelf Go.Sort
def cmpI (x y : Int) : Int := if x < y then -1 else if y < x then 1 else 0
theorem cmp_isNaN (x : Int) (w : World) : Calls Tryz.prog 116 #[.int .i64 x] w fun e w' => e = .returned (.bool false) /\ w = w' := by
 go_enter Tryz.func116, Tryz.ntmps116
 go_wp2
 go_ret
 exact ⟨by simp, rfl⟩
theorem cmp_Compare (x y : Int) (w : World) : Calls Tryz.prog 57 #[.int .i64 x, .int .i64 y] w fun e w' => e = .returned (.int .i64 (cmpI x y)) /\ w = w' := by
 have C := hid fun x => cmp_isNaN x w
 by_cases h1 : x < y
 ·have d1 : decide (x < y) = true := decide_eq_true h1
  have hc := hid (show cmpI x y = -1 by unfold cmpI; rw [if_pos h1])
  clear h1;go_enter Tryz.func57, Tryz.ntmps57
  go_wp2_with (go_at_call 116; refine (C.out _).mono ?_; rintro e w1 ⟨rfl, rfl⟩)
  go_ret
  exact ⟨by rw [hc.out]; rfl, rfl⟩
 ·have d1 : decide (x < y) = false := decide_eq_false h1
  by_cases h2 : y < x
  ·have d2 : decide (y < x) = true := decide_eq_true h2
   have hc := hid (show cmpI x y = 1 by unfold cmpI; rw [if_neg h1, if_pos h2])
   clear h1 h2;go_enter Tryz.func57, Tryz.ntmps57
   go_wp2_with (go_at_call 116; refine (C.out _).mono ?_; rintro e w1 ⟨rfl, rfl⟩)
   go_ret
   exact ⟨by rw [hc.out]; rfl, rfl⟩
  ·have d2 : decide (y < x) = false := decide_eq_false h2
   have hc := hid (show cmpI x y = 0 by unfold cmpI; rw [if_neg h1, if_neg h2])
   clear h1 h2;go_enter Tryz.func57, Tryz.ntmps57
   go_wp2_with (go_at_call 116; refine (C.out _).mono ?_; rintro e w1 ⟨rfl, rfl⟩)
   go_ret
   exact ⟨by rw [hc.out]; rfl, rfl⟩
theorem out_Of1 (a b : Nat) (x y : Int) (w : World) (ha : w.cell? ⟨a, 2, none⟩ = some (.int .i64 x)) (hb : w.cell? ⟨b, 2, none⟩ = some (.int .i64 y)) :
  Calls Tryz.prog 56 #[.pointer (some ⟨a, 0, none⟩), .pointer (some ⟨b, 0, none⟩)] w fun e w' => e = .returned (.int .i64 (cmpI x y)) /\ ∃ q, w' = w.drewN q := by
 have C := hid fun W => cmp_Compare x y W
 generalize cmpI x y = z at *
 go_enter Tryz.func56, Tryz.ntmps56
 go_wp2
 have ha' : w.drew.cell? ⟨a, 2, none⟩ = some (.int .i64 x) := ha
 have hb' : w.drew.cell? ⟨b, 2, none⟩ = some (.int .i64 y) := hb
 refine regionQ [(1000, fun w' => w'.cell? ⟨a, 2, none⟩ = some (.int .i64 x)), (1000, fun w' => w'.cell? ⟨b, 2, none⟩ = some (.int .i64 y))] (by kernel_rfl) ⟨ha', hb', trivial⟩ fun KQ hKQ => ?_
 refine tQ [0] ?_;refine nQ 1 ?_;refine tQ [2] ?_;refine loadQ 3 rfl (by kernel_rfl) (by kernel_rfl) rfl rfl 0 rfl (by kernel_rfl) (.int .i64 x) (fun w' hf => by (go_simp <;> with_reducible rfl)) ?_
 simp only [PT];refine tQ [4] ?_;refine nQ 5 ?_;refine tQ [6] ?_;refine loadQ 7 rfl (by kernel_rfl) (by kernel_rfl) rfl rfl 1 rfl (by kernel_rfl) (.int .i64 y) (fun w' hf => by (go_simp <;> with_reducible rfl)) ?_
 simp only [PT];refine sQ 8 fun K hK => ?_;simp only [GO];go_simp;refine (C.out _).mono ?_
 rintro e w1 ⟨rfl, rfl⟩
 refine hK _ _ ⟨⟨fun _ => ha', fun _ => hb', trivial⟩, ?_⟩
 clear hK K;refine tQ [9] ?_;refine dQ (hKQ.out _ _ ?_);clear hKQ KQ;go_wp2
 go_ret
 exact ⟨rfl, 1, rfl⟩
theorem cmpI_lt (x y : Int) : decide (cmpI x y < 0) = decide (x < y) := by
 unfold cmpI
 by_cases h1 : x < y
 ·simp [h1]
 ·by_cases h2 : y < x <;> simp [h1, h2]
theorem sortWorld_block {α : Type} [Inhabited α] (enc : α -> Value) (w : World) (g q : Nat) (d : Array α) (os : Array Obj) (k : Nat) (h1 : k ≠ g) (h2 : k < w.heap.size) : (sortWorld enc w g 0 q d os).heap[k]? = w.heap[k]? := by
 unfold sortWorld
 rw [heap_grow_old _ _ (by simpa [putRow, mapBlock, Sort.ahead] using h2)]
 simp [putRow, mapBlock, Sort.ahead, Array.getElem?_modify, Ne.symm h1]
theorem sortWorld_cell {α : Type} [Inhabited α] (enc : α -> Value) (w : World) (g q : Nat) (d : Array α) (os : Array Obj) (a : Addr) (h1 : a.block ≠ g) (h2 : a.block < w.heap.size) : (sortWorld enc w g 0 q d os).cell? a = w.cell? a := by
 simp only [World.cell?, sortWorld_block enc w g q d os a.block h1 h2]
theorem sortWorld_wrote {α : Type} [Inhabited α] (enc : α -> Value) (w : World) (g q : Nat) (d : Array α) (os : Array Obj) : Wrote [g] w (sortWorld enc w g 0 q d os) :=
 ⟨rfl, rfl, rfl, by simp [sortWorld, grow, putRow, mapBlock, Sort.ahead], fun k hk hg => sortWorld_block enc w g q d os k (by simpa using hg) hk⟩
theorem below_grow (w : World) (os : Array Obj) : Below w.heap.size w (grow w os) := ⟨rfl, rfl, rfl, by simp [grow], fun k hk => heap_grow_old w os hk⟩
theorem sort_rows (w : World) (g cap : Nat) (rb : List Nat) (rows : List RowV) (n : Nat) (hn : 0 < n) (h63 : n <= 1000000) (hl : rb.length = n) (hr : rows.length = n) (hrow : w.ownsRow 0 126 1 (.slice (some ⟨g, 0, none⟩) n cap) n (ptrs rb))
  (hc : ∀ (i b : Nat) (r : RowV), rb[i]? = some b -> rows[i]? = some r -> Blk w b r.vals 33) :
  Calls Tryz.prog 55 #[.slice (some ⟨g, 0, none⟩) n cap, .func (.func 56) #[] #[]] w fun e w' => e = .returned (.tuple #[]) /\
   ∃ zs : List (Nat × RowV), zs.Perm (rb.zip rows) /\ zs.Pairwise (fun a b => a.2.seq <= b.2.seq) /\ w'.ownsRow 0 126 1 (.slice (some ⟨g, 0, none⟩) n cap) n (ptrs (zs.map Prod.fst)) /\ Wrote [g] w w' := by
 haveI : Inhabited (Fin n) := ⟨⟨0, hn⟩⟩
 let enc : Fin n -> Value := fun i => .pointer (some ⟨rb[i.1]'(by omega), 0, none⟩)
 let cf : Fin n -> Fin n -> Int := fun i j => cmpI (rows[i.1]'(by omega)).seq (rows[j.1]'(by omega)).seq
 have henc : ∀ i : Fin n, enc i = .pointer (some ⟨rb[i.1]'(by omega), 0, none⟩) := fun _ => rfl
 have hidr : (List.finRange n).map enc = ptrs rb := by
  unfold ptrs
  apply List.ext_getElem
  ·simp [hl]
  ·intro i h1 h2
   simp [henc]
 have hrow' : w.ownsRow 0 126 1 (.slice (some ⟨g, 0, none⟩) n cap) n ((List.finRange n).map enc) := by rw [hidr]; exact hrow
 obtain ⟨g', cap', he, _, hgl, _, _, _, hH⟩ := Lib.holds_of_ownsRow hrow' (by simp)
 obtain ⟨rfl, rfl⟩ : g = g' /\ cap = cap' := by simpa using he
 have hlt : ∀ x y, ltOf cf x y = decide ((rows[x.1]'(by omega)).seq < (rows[y.1]'(by omega)).seq) := fun x y => cmpI_lt _ _
 have hO : SWO (ltOf cf) := ⟨fun x => by rw [hlt]; simp, fun x y z h1 h2 => by rw [hlt] at *; simp at *; omega, fun x y z h1 h2 => by rw [hlt] at *; simp at *; omega⟩
 have hcell : ∀ i : Fin n, w.cell? ⟨rb[i.1]'(by omega), 2, none⟩ = some (.int .i64 (rows[i.1]'(by omega)).seq) /\ rb[i.1]'(by omega) < w.heap.size /\ rb[i.1]'(by omega) ≠ g := fun i => by
  have hb := hc i.1 _ _ (List.getElem?_eq_getElem (by omega)) (List.getElem?_eq_getElem (by omega))
  exact ⟨hb.cell 2, hb.lt, fun h => block_not_row hb (by decide) hrow (by rw [h]; rfl)⟩
 have hcmp : CmpReads Tryz.prog 56 #[] enc cf g 0 n w := fun m os dk hs x y => by
  obtain ⟨x1, x2, x3⟩ := hcell x
  obtain ⟨y1, y2, y3⟩ := hcell y
  exact out_Of1 _ _ _ _ _ ((sortWorld_cell enc w g m dk os ⟨_, 2, none⟩ x3 x2).trans x1) ((sortWorld_cell enc w g m dk os ⟨_, 2, none⟩ y3 y2).trans y1)
 have hsz : (List.finRange n).toArray.size = n := by simp
 have hcon := Any.slices_SortFunc Tryz.sortF enc (fun _ => rfl) cf hO 56 #[] g 0 cap (List.finRange n).toArray w (enters_of Tryz.func56 (by kernel_rfl) rfl) (by rw [hsz]; exact hcmp.lays) hH hgl (by rw [hsz]; omega)
 rw [hsz] at hcon
 change Calls Tryz.prog 55 _ _ _ at hcon
 refine hcon.mono ?_
 rintro e w' ⟨he, d', q, os, hp, hs, rfl⟩
 refine ⟨he, ?_⟩
 obtain ⟨p1, -, p3⟩ := hp
 rw [hsz] at p1
 have hd : d'.toList.Perm (List.finRange n) := by
  have e1 : (d'.extract 0 n).toList = d'.toList := by
   rw [Array.toList_extract]
   simp [List.extract, List.take_of_length_le (show d'.toList.length <= n by simp [p1])]
  have e2 : ((List.finRange n).toArray.extract 0 n).toList = List.finRange n := by
   rw [Array.toList_extract]
   simp [List.extract, List.take_of_length_le]
  rw [e1, e2] at p3
  exact p3
 refine ⟨d'.toList.map fun i => (rb[i.1]'(by omega), rows[i.1]'(by omega)), ?_, ?_, ?_, sortWorld_wrote enc w g q d' os⟩
 ·refine (hd.map _).trans ?_
  rw [show (List.finRange n).map (fun i => (rb[i.1]'(by omega), rows[i.1]'(by omega))) = rb.zip rows by
   apply List.ext_getElem
   ·simp [hl, hr]
   ·intro i h1 h2
    simp]
 ·rw [List.pairwise_map, List.pairwise_iff_getElem]
  intro i j hi hj hij
  have := hs i j (Nat.zero_le _) hij (by simp [p1] at hj ⊢; omega)
  rw [hlt] at this
  simp only [decide_eq_false_iff_not, Int.not_lt] at this
  simp only [Array.length_toList] at hi hj
  simpa [getElem!_pos, hi, hj] using this
 ·have e3 : ptrs ((d'.toList.map fun i => (rb[i.1]'(by omega), rows[i.1]'(by omega))).map Prod.fst) = d'.toList.map enc := by
   unfold ptrs
   rw [List.map_map, List.map_map]
   rfl
  rw [e3]
  have h1 := Lib.ownsRow_putRow (q := q) (k := n) hrow' (ys := d'.toList) (by simp [p1]) (Nat.le_refl _)
  rw [List.take_of_length_le (by simp [p1])] at h1
  exact ownsRow_below h1 (below_grow _ _)
end
end Go.Proofs.YtoinabapaeebfaaGreatDoor
