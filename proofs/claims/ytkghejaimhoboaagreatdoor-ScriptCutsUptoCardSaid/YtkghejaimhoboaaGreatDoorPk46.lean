/- Parts of the proof of ScriptCuts: contracts of functions that it reaches, and plain lemmas. No condition of their own. -/
import Derived.Test.YtkghejaimhoboaaGreatDoorPk26
import Derived.Deep.Cut
set_option linter.unusedSimpArgs false
set_option linter.unusedVariables false
set_option maxRecDepth 100000
set_option maxHeartbeats 8000000
namespace Go.Proofs.YtkghejaimhoboaaGreatDoor
open Go.RowKit Go.Shelf
section
attribute [local go_sem] Oper.semAt_some
structure PEq (p q : Pk) : Prop where
 wants : p.wants = q.wants
 codes : p.codes = q.codes
 filters : p.filters = q.filters
 flat : flatB p q = true
theorem PEq.iff (p q : Pk) : p = q ↔ PEq p q := by
 rw [Pk.same_iff]
 exact ⟨fun ⟨a, b, c, d⟩ => ⟨a, b, c, d⟩, fun ⟨a, b, c, d⟩ => ⟨a, b, c, d⟩⟩
theorem r16_Same (p : Pk) (h : H3) (q : Pk) (k : H3) (w : World) (hp : p.In w h) (hq : q.In w k) :
  Calls Tryz.prog 78 #[.agg (p.cells h).toArray, .agg (q.cells k).toArray] w (Tells (p = q) w) := by
 have hiff := PEq.iff p q
 obtain ⟨P, hP⟩ : ∃ P : Prop, (p = q) = P := ⟨_, rfl⟩
 rw [hP] at hiff ⊢
 clear hP;replace hiff := hid hiff;have HP := hid hp;have HQ := hid hq;obtain ⟨pv, hpv⟩ : ∃ pv, (p.cells h).toArray = pv := ⟨_, rfl⟩
 obtain ⟨qv, hqv⟩ : ∃ qv, (q.cells k).toArray = qv := ⟨_, rfl⟩
 obtain ⟨W0, hW0⟩ : ∃ W0, (w.alloc (.cells pv 52)).alloc (.cells qv 52) = W0 := ⟨_, rfl⟩
 have hb0 : Below w.heap.size w W0 := by rw [<- hW0]; exact ((Below.refl _ _).alloc (Nat.le_refl _) _).alloc (by simp) _
 have hPW : PB w.heap.size p h q k W0 := by
  rw [<- hW0, <- hpv, <- hqv]
  refine ⟨(Blk.new _ _ _).alloc _, ?_⟩
  have := Blk.new (w.alloc (.cells (p.cells h).toArray 52)) (q.cells k).toArray 52
  simpa using this
 have plw : W0.cell? ⟨w.heap.size, 21, none⟩ = some (.slice h.w.a h.w.n h.w.c) := hPW.one.cell 21
 have qlw : W0.cell? ⟨w.heap.size + 1, 21, none⟩ = some (.slice k.w.a k.w.n k.w.c) := hPW.two.cell 21
 have plc : W0.cell? ⟨w.heap.size, 22, none⟩ = some (.slice h.c.a h.c.n h.c.c) := hPW.one.cell 22
 have qlc : W0.cell? ⟨w.heap.size + 1, 22, none⟩ = some (.slice k.c.a k.c.n k.c.c) := hPW.two.cell 22
 have plf : W0.cell? ⟨w.heap.size, 23, none⟩ = some (.slice h.f.a h.f.n h.f.c) := hPW.one.cell 23
 have qlf : W0.cell? ⟨w.heap.size + 1, 23, none⟩ = some (.slice k.f.a k.f.n k.f.c) := hPW.two.cell 23
 replace hb0 := hid hb0;replace hPW := hid hPW;rw [hpv, hqv]
 replace hpv := hid hpv;replace hqv := hid hqv;have hmw : h.w.n <= 9223372036854775807 := by have := hp.lw.le; have := hp.lw.max; unfold maxLen at this; omega
 have hmc : h.c.n <= 9223372036854775807 := by have := hp.lc.le; have := hp.lc.max; unfold maxLen at this; omega
 have hmf : h.f.n <= 9223372036854775807 := by have := hp.lf.le; have := hp.lf.max; unfold maxLen at this; omega
 clear hp hq;by_cases hlw : k.w.n = h.w.n
 ·skip
  by_cases hlc : k.c.n = h.c.n
  ·skip
   by_cases hlf : k.f.n = h.f.n
   ·skip
    go_enter Tryz.func78, Tryz.ntmps78
    go_wp2_with fail
    go_loopw [5] (fun i wr => ∃ j : Nat, i = .int .i64 j /\ j <= h.w.n /\ Hid (Below w.heap.size w wr) /\ Hid (PB w.heap.size p h q k wr) /\ Hid (∀ m, m < j -> p.wants[m]? = q.wants[m]?)) (fun i _ => h.w.n - (intOf i).toNat)
    case atStart => exact ⟨0, rfl, Nat.zero_le _, hb0, hPW, hid fun m hm => absurd hm (by omega)⟩
    case round =>
     obtain ⟨j, rfl, hj, hbr, hPr, hall⟩ := hrel
     obtain ⟨wr1, hwwr1⟩ : ∃ W, W = wr := ⟨_, rfl⟩
     subst hwwr1;have hPW := hPr.out
     have plw : wr1.cell? ⟨w.heap.size, 21, none⟩ = some (.slice h.w.a h.w.n h.w.c) := hPW.one.cell 21
     have qlw : wr1.cell? ⟨w.heap.size + 1, 21, none⟩ = some (.slice k.w.a k.w.n k.w.c) := hPW.two.cell 21
     have plc : wr1.cell? ⟨w.heap.size, 22, none⟩ = some (.slice h.c.a h.c.n h.c.c) := hPW.one.cell 22
     have qlc : wr1.cell? ⟨w.heap.size + 1, 22, none⟩ = some (.slice k.c.a k.c.n k.c.c) := hPW.two.cell 22
     have plf : wr1.cell? ⟨w.heap.size, 23, none⟩ = some (.slice h.f.a h.f.n h.f.c) := hPW.one.cell 23
     have qlf : wr1.cell? ⟨w.heap.size + 1, 23, none⟩ = some (.slice k.f.a k.f.n k.f.c) := hPW.two.cell 23
     replace hPW := hid hPW;rcases Nat.lt_or_ge j h.w.n with hlt | hge
     ·skip
      obtain ⟨x, hx⟩ : ∃ x, p.wants[j]? = some x := ⟨_, List.getElem?_eq_getElem (by rw [HP.out.lw.len]; omega)⟩
      obtain ⟨y, hy⟩ : ∃ y, q.wants[j]? = some y := ⟨_, List.getElem?_eq_getElem (by rw [HQ.out.lw.len, hlw]; omega)⟩
      obtain ⟨g1, o1, ha1, hr1⟩ := HP.out.lw.range hx
      obtain ⟨g2, o2, ha2, hr2⟩ := HQ.out.lw.range hy
      have hc1 := hr1 _ hbr.out.drew
      have hc2 := hr2 _ hbr.out.drew
      have hbw := hid hbr.out.drew;have hPd : PB w.heap.size p h q k wr1.drew := ⟨hPr.out.one, hPr.out.two⟩
      have HPd := hid hPd;obtain ⟨bv, hbv⟩ : ∃ b, decide (x = y) = b := ⟨_, rfl⟩
      have hq1 := neq_w x y
      have hg1 := gu_w x y
      rw [hbv] at hq1
      obtain ⟨xv, hxv⟩ : ∃ v, wVl x = v := ⟨_, rfl⟩
      obtain ⟨yv, hyv⟩ : ∃ v, wVl y = v := ⟨_, rfl⟩
      skip
      skip
      rw [hxv, hyv] at hq1 hg1
      replace hxv := hid hxv;replace hyv := hid hyv;replace hx := hid hx;replace hy := hid hy;replace hbv := hid hbv;have hs1 : Hid ((p.cells h).toArray[21]? = some (.slice (some ⟨g1, o1, none⟩) h.w.n h.w.c)) := hid (by rw [<- ha1]; rfl)
      have hs2 : Hid ((q.cells k).toArray[21]? = some (.slice (some ⟨g2, o2, none⟩) k.w.n k.w.c)) := hid (by rw [<- ha2]; rfl)
      replace ha1 := hid ha1;replace ha2 := hid ha2;clear hr1 hr2;go_wp2_with fail
      refine regionQ [(1000, fun w' => PB w.heap.size p h q k w'), (1000, fun w' => w'.rangeAt g1 (o1 + j * 2) x.cl), (1000, fun w' => w'.rangeAt g2 (o2 + j * 2) y.cl)] (by kernel_rfl) ⟨hPd, hc1, hc2, trivial⟩ fun KQ hKQ => ?_
      refine tQ [0] ?_;refine lR 1 0 rfl rfl rfl rfl (fun w' hf => by (have k0 := (hf.one.cell 21).trans hs1.out; go_simp <;> with_reducible rfl)) ?_
      simp only [PT];refine tQ [2, 3] ?_;refine lR 4 1 rfl rfl rfl rfl (v := xv) (fun w' hf => by rw [<- hxv.out]; exact run_loadAt_mid w' _ _ 169 x.cl _ hf Tryz.underlying169 rfl (by kernel_rfl)) ?_
      try simp only [PT]
      refine tQ [5] ?_;refine lR 6 0 rfl rfl rfl rfl (fun w' hf => by (have k0 := (hf.two.cell 21).trans hs2.out; go_simp <;> with_reducible rfl)) ?_
      simp only [PT];refine tQ [7, 8] ?_;refine lR 9 2 rfl rfl rfl rfl (v := yv) (fun w' hf => by rw [<- hyv.out]; exact run_loadAt_mid w' _ _ 169 y.cl _ hf Tryz.underlying169 rfl (by kernel_rfl)) ?_
      try simp only [PT]
      refine tQ [10] ?_;refine dQ (hKQ.out _ _ ?_);clear hKQ KQ;rcases bv with _ | _
      ·go_wp2_with fail
       go_ret
       refine Tells.no (fun e => ?_) hbw.out
       have e6 := ((hiff.out.1 e).wants)
       have h7 := hx.out
       rw [e6, hy.out] at h7
       cases h7
       have h8 := hbv.out
       simp at h8
      ·go_wp2_with fail
       go_roundw
       case rel =>
        refine ⟨j + 1, by go_num, by omega, hbw, HPd, hid fun m hm => ?_⟩
        by_cases hmj : m = j
        ·subst hmj
         rw [hx.out, hy.out, of_decide_eq_true hbv.out]
        ·exact hall.out m (by omega)
       case measure => simp [intOf]; omega
     ·obtain rfl : j = h.w.n := by omega
      have heqw : Hid (p.wants = q.wants) := hid (by
       apply List.ext_getElem?
       intro m
       rcases Nat.lt_or_ge m h.w.n with h7 | h7
       ·exact hall.out m h7
       ·rw [List.getElem?_eq_none (by rw [HP.out.lw.len]; exact h7), List.getElem?_eq_none (by rw [HQ.out.lw.len, hlw]; exact h7)])
      clear hall hge hj;go_wp2_with fail
      go_loopw [6] (fun i wr => ∃ j : Nat, i = .int .i64 j /\ j <= h.c.n /\ Hid (Below w.heap.size w wr) /\ Hid (PB w.heap.size p h q k wr) /\ Hid (∀ m, m < j -> p.codes[m]? = q.codes[m]?)) (fun i _ => h.c.n - (intOf i).toNat)
      case atStart => exact ⟨0, rfl, Nat.zero_le _, hbr, hPr, hid fun m hm => absurd hm (by omega)⟩
      case round =>
       obtain ⟨j, rfl, hj, hbr, hPr, hall⟩ := hrel
       obtain ⟨wr2, hwwr2⟩ : ∃ W, W = wr := ⟨_, rfl⟩
       subst hwwr2;have hPW := hPr.out
       have plw : wr2.cell? ⟨w.heap.size, 21, none⟩ = some (.slice h.w.a h.w.n h.w.c) := hPW.one.cell 21
       have qlw : wr2.cell? ⟨w.heap.size + 1, 21, none⟩ = some (.slice k.w.a k.w.n k.w.c) := hPW.two.cell 21
       have plc : wr2.cell? ⟨w.heap.size, 22, none⟩ = some (.slice h.c.a h.c.n h.c.c) := hPW.one.cell 22
       have qlc : wr2.cell? ⟨w.heap.size + 1, 22, none⟩ = some (.slice k.c.a k.c.n k.c.c) := hPW.two.cell 22
       have plf : wr2.cell? ⟨w.heap.size, 23, none⟩ = some (.slice h.f.a h.f.n h.f.c) := hPW.one.cell 23
       have qlf : wr2.cell? ⟨w.heap.size + 1, 23, none⟩ = some (.slice k.f.a k.f.n k.f.c) := hPW.two.cell 23
       replace hPW := hid hPW;rcases Nat.lt_or_ge j h.c.n with hlt | hge
       ·skip
        obtain ⟨x, hx⟩ : ∃ x, p.codes[j]? = some x := ⟨_, List.getElem?_eq_getElem (by rw [HP.out.lc.len]; omega)⟩
        obtain ⟨y, hy⟩ : ∃ y, q.codes[j]? = some y := ⟨_, List.getElem?_eq_getElem (by rw [HQ.out.lc.len, hlc]; omega)⟩
        obtain ⟨g1, o1, ha1, hr1⟩ := HP.out.lc.range hx
        obtain ⟨g2, o2, ha2, hr2⟩ := HQ.out.lc.range hy
        have hc1 := hr1 _ hbr.out.drew
        have hc2 := hr2 _ hbr.out.drew
        have hbw := hid hbr.out.drew;have hPd : PB w.heap.size p h q k wr2.drew := ⟨hPr.out.one, hPr.out.two⟩
        have HPd := hid hPd;obtain ⟨bv, hbv⟩ : ∃ b, decide (x = y) = b := ⟨_, rfl⟩
        have hq1 := neq_i x y
        have hg1 := gu_i x y
        rw [hbv] at hq1
        obtain ⟨xv, hxv⟩ : ∃ v, iVl x = v := ⟨_, rfl⟩
        obtain ⟨yv, hyv⟩ : ∃ v, iVl y = v := ⟨_, rfl⟩
        have hc1 : wr2.drew.cell? ⟨g1, o1 + j, none⟩ = some xv := by rw [<- hxv]; simpa using hc1 0 (iVl x) rfl
        have hc2 : wr2.drew.cell? ⟨g2, o2 + j, none⟩ = some yv := by rw [<- hyv]; simpa using hc2 0 (iVl y) rfl
        rw [hxv, hyv] at hq1 hg1
        replace hxv := hid hxv;replace hyv := hid hyv;replace hx := hid hx;replace hy := hid hy;replace hbv := hid hbv;have hs1 : Hid ((p.cells h).toArray[22]? = some (.slice (some ⟨g1, o1, none⟩) h.c.n h.c.c)) := hid (by rw [<- ha1]; rfl)
        have hs2 : Hid ((q.cells k).toArray[22]? = some (.slice (some ⟨g2, o2, none⟩) k.c.n k.c.c)) := hid (by rw [<- ha2]; rfl)
        replace ha1 := hid ha1;replace ha2 := hid ha2;clear hr1 hr2;go_wp2_with fail
        refine regionQ [(1000, fun w' => PB w.heap.size p h q k w'), (1000, fun w' => w'.cell? ⟨g1, o1 + j, none⟩ = some xv), (1000, fun w' => w'.cell? ⟨g2, o2 + j, none⟩ = some yv)] (by kernel_rfl) ⟨hPd, hc1, hc2, trivial⟩ fun KQ hKQ => ?_
        refine tQ [0] ?_;refine lR 1 0 rfl rfl rfl rfl (fun w' hf => by (have k0 := (hf.one.cell 22).trans hs1.out; go_simp <;> with_reducible rfl)) ?_
        simp only [PT];refine tQ [2, 3] ?_;refine lR 4 1 rfl rfl rfl rfl (fun w' hf => by (have k0 := hf; go_simp <;> with_reducible rfl)) ?_
        simp only [PT];refine tQ [5] ?_;refine lR 6 0 rfl rfl rfl rfl (fun w' hf => by (have k0 := (hf.two.cell 22).trans hs2.out; go_simp <;> with_reducible rfl)) ?_
        simp only [PT];refine tQ [7, 8] ?_;refine lR 9 2 rfl rfl rfl rfl (fun w' hf => by (have k0 := hf; go_simp <;> with_reducible rfl)) ?_
        simp only [PT];refine tQ [10] ?_;refine dQ (hKQ.out _ _ ?_);clear hKQ KQ;rcases bv with _ | _
        ·go_wp2_with fail
         go_ret
         refine Tells.no (fun e => ?_) hbw.out
         have e6 := ((hiff.out.1 e).codes)
         have h7 := hx.out
         rw [e6, hy.out] at h7
         cases h7
         have h8 := hbv.out
         simp at h8
        ·go_wp2_with fail
         go_roundw
         case rel =>
          refine ⟨j + 1, by go_num, by omega, hbw, HPd, hid fun m hm => ?_⟩
          by_cases hmj : m = j
          ·subst hmj
           rw [hx.out, hy.out, of_decide_eq_true hbv.out]
          ·exact hall.out m (by omega)
         case measure => simp [intOf]; omega
       ·obtain rfl : j = h.c.n := by omega
        have heqc : Hid (p.codes = q.codes) := hid (by
         apply List.ext_getElem?
         intro m
         rcases Nat.lt_or_ge m h.c.n with h7 | h7
         ·exact hall.out m h7
         ·rw [List.getElem?_eq_none (by rw [HP.out.lc.len]; exact h7), List.getElem?_eq_none (by rw [HQ.out.lc.len, hlc]; exact h7)])
        clear hall hge hj;go_wp2_with fail
        go_loopw [7] (fun i wr => ∃ j : Nat, i = .int .i64 j /\ j <= h.f.n /\ Hid (Below w.heap.size w wr) /\ Hid (PB w.heap.size p h q k wr) /\ Hid (∀ m, m < j -> p.filters[m]? = q.filters[m]?)) (fun i _ => h.f.n - (intOf i).toNat)
        case atStart => exact ⟨0, rfl, Nat.zero_le _, hbr, hPr, hid fun m hm => absurd hm (by omega)⟩
        case round =>
         obtain ⟨j, rfl, hj, hbr, hPr, hall⟩ := hrel
         obtain ⟨wr3, hwwr3⟩ : ∃ W, W = wr := ⟨_, rfl⟩
         subst hwwr3;have hPW := hPr.out
         have plw : wr3.cell? ⟨w.heap.size, 21, none⟩ = some (.slice h.w.a h.w.n h.w.c) := hPW.one.cell 21
         have qlw : wr3.cell? ⟨w.heap.size + 1, 21, none⟩ = some (.slice k.w.a k.w.n k.w.c) := hPW.two.cell 21
         have plc : wr3.cell? ⟨w.heap.size, 22, none⟩ = some (.slice h.c.a h.c.n h.c.c) := hPW.one.cell 22
         have qlc : wr3.cell? ⟨w.heap.size + 1, 22, none⟩ = some (.slice k.c.a k.c.n k.c.c) := hPW.two.cell 22
         have plf : wr3.cell? ⟨w.heap.size, 23, none⟩ = some (.slice h.f.a h.f.n h.f.c) := hPW.one.cell 23
         have qlf : wr3.cell? ⟨w.heap.size + 1, 23, none⟩ = some (.slice k.f.a k.f.n k.f.c) := hPW.two.cell 23
         replace hPW := hid hPW;rcases Nat.lt_or_ge j h.f.n with hlt | hge
         ·skip
          obtain ⟨x, hx⟩ : ∃ x, p.filters[j]? = some x := ⟨_, List.getElem?_eq_getElem (by rw [HP.out.lf.len]; omega)⟩
          obtain ⟨y, hy⟩ : ∃ y, q.filters[j]? = some y := ⟨_, List.getElem?_eq_getElem (by rw [HQ.out.lf.len, hlf]; omega)⟩
          obtain ⟨g1, o1, ha1, hr1⟩ := HP.out.lf.range hx
          obtain ⟨g2, o2, ha2, hr2⟩ := HQ.out.lf.range hy
          have hc1 := hr1 _ hbr.out.drew
          have hc2 := hr2 _ hbr.out.drew
          have hbw := hid hbr.out.drew;have hPd : PB w.heap.size p h q k wr3.drew := ⟨hPr.out.one, hPr.out.two⟩
          have HPd := hid hPd;obtain ⟨bv, hbv⟩ : ∃ b, decide (x = y) = b := ⟨_, rfl⟩
          have hq1 := neq_s x y
          have hg1 := gu_s x y
          rw [hbv] at hq1
          obtain ⟨xv, hxv⟩ : ∃ v, sVl x = v := ⟨_, rfl⟩
          obtain ⟨yv, hyv⟩ : ∃ v, sVl y = v := ⟨_, rfl⟩
          have hc1 : wr3.drew.cell? ⟨g1, o1 + j, none⟩ = some xv := by rw [<- hxv]; simpa using hc1 0 (sVl x) rfl
          have hc2 : wr3.drew.cell? ⟨g2, o2 + j, none⟩ = some yv := by rw [<- hyv]; simpa using hc2 0 (sVl y) rfl
          rw [hxv, hyv] at hq1 hg1
          replace hxv := hid hxv;replace hyv := hid hyv;replace hx := hid hx;replace hy := hid hy;replace hbv := hid hbv;have hs1 : Hid ((p.cells h).toArray[23]? = some (.slice (some ⟨g1, o1, none⟩) h.f.n h.f.c)) := hid (by rw [<- ha1]; rfl)
          have hs2 : Hid ((q.cells k).toArray[23]? = some (.slice (some ⟨g2, o2, none⟩) k.f.n k.f.c)) := hid (by rw [<- ha2]; rfl)
          replace ha1 := hid ha1;replace ha2 := hid ha2;clear hr1 hr2;go_wp2_with fail
          refine regionQ [(1000, fun w' => PB w.heap.size p h q k w'), (1000, fun w' => w'.cell? ⟨g1, o1 + j, none⟩ = some xv), (1000, fun w' => w'.cell? ⟨g2, o2 + j, none⟩ = some yv)] (by kernel_rfl) ⟨hPd, hc1, hc2, trivial⟩ fun KQ hKQ => ?_
          refine tQ [0] ?_;refine lR 1 0 rfl rfl rfl rfl (fun w' hf => by (have k0 := (hf.one.cell 23).trans hs1.out; go_simp <;> with_reducible rfl)) ?_
          simp only [PT];refine tQ [2, 3] ?_;refine lR 4 1 rfl rfl rfl rfl (fun w' hf => by (have k0 := hf; go_simp <;> with_reducible rfl)) ?_
          simp only [PT];refine tQ [5] ?_;refine lR 6 0 rfl rfl rfl rfl (fun w' hf => by (have k0 := (hf.two.cell 23).trans hs2.out; go_simp <;> with_reducible rfl)) ?_
          simp only [PT];refine tQ [7, 8] ?_;refine lR 9 2 rfl rfl rfl rfl (fun w' hf => by (have k0 := hf; go_simp <;> with_reducible rfl)) ?_
          simp only [PT];refine tQ [10] ?_;refine dQ (hKQ.out _ _ ?_);clear hKQ KQ;rcases bv with _ | _
          ·go_wp2_with fail
           go_ret
           refine Tells.no (fun e => ?_) hbw.out
           have e6 := ((hiff.out.1 e).filters)
           have h7 := hx.out
           rw [e6, hy.out] at h7
           cases h7
           have h8 := hbv.out
           simp at h8
          ·go_wp2_with fail
           go_roundw
           case rel =>
            refine ⟨j + 1, by go_num, by omega, hbw, HPd, hid fun m hm => ?_⟩
            by_cases hmj : m = j
            ·subst hmj
             rw [hx.out, hy.out, of_decide_eq_true hbv.out]
            ·exact hall.out m (by omega)
           case measure => simp [intOf]; omega
         ·obtain rfl : j = h.f.n := by omega
          have heqf : Hid (p.filters = q.filters) := hid (by
           apply List.ext_getElem?
           intro m
           rcases Nat.lt_or_ge m h.f.n with h7 | h7
           ·exact hall.out m h7
           ·rw [List.getElem?_eq_none (by rw [HP.out.lf.len]; exact h7), List.getElem?_eq_none (by rw [HQ.out.lf.len, hlf]; exact h7)])
          clear hall hge hj;have hPW := hPW.out
          have p0 : wr3.cell? ⟨w.heap.size, 0, none⟩ = some (.int .i64 p.kind) := hPW.one.cell 0
          have q0 : wr3.cell? ⟨w.heap.size + 1, 0, none⟩ = some (.int .i64 q.kind) := hPW.two.cell 0
          have p1 : wr3.cell? ⟨w.heap.size, 1, none⟩ = some (.bool p.dup) := hPW.one.cell 1
          have q1 : wr3.cell? ⟨w.heap.size + 1, 1, none⟩ = some (.bool q.dup) := hPW.two.cell 1
          have p2 : wr3.cell? ⟨w.heap.size, 2, none⟩ = some (.bool p.retain) := hPW.one.cell 2
          have q2 : wr3.cell? ⟨w.heap.size + 1, 2, none⟩ = some (.bool q.retain) := hPW.two.cell 2
          have p3 : wr3.cell? ⟨w.heap.size, 3, none⟩ = some (.int .i64 p.qos) := hPW.one.cell 3
          have q3 : wr3.cell? ⟨w.heap.size + 1, 3, none⟩ = some (.int .i64 q.qos) := hPW.two.cell 3
          have p4 : wr3.cell? ⟨w.heap.size, 4, none⟩ = some (.string ⟨p.topic.toArray⟩) := hPW.one.cell 4
          have q4 : wr3.cell? ⟨w.heap.size + 1, 4, none⟩ = some (.string ⟨q.topic.toArray⟩) := hPW.two.cell 4
          have p5 : wr3.cell? ⟨w.heap.size, 5, none⟩ = some (.string ⟨p.body.toArray⟩) := hPW.one.cell 5
          have q5 : wr3.cell? ⟨w.heap.size + 1, 5, none⟩ = some (.string ⟨q.body.toArray⟩) := hPW.two.cell 5
          have p6 : wr3.cell? ⟨w.heap.size, 6, none⟩ = some (.int .i64 p.id) := hPW.one.cell 6
          have q6 : wr3.cell? ⟨w.heap.size + 1, 6, none⟩ = some (.int .i64 q.id) := hPW.two.cell 6
          have p7 : wr3.cell? ⟨w.heap.size, 7, none⟩ = some (.string ⟨p.client.toArray⟩) := hPW.one.cell 7
          have q7 : wr3.cell? ⟨w.heap.size + 1, 7, none⟩ = some (.string ⟨q.client.toArray⟩) := hPW.two.cell 7
          have p8 : wr3.cell? ⟨w.heap.size, 8, none⟩ = some (.bool p.clean) := hPW.one.cell 8
          have q8 : wr3.cell? ⟨w.heap.size + 1, 8, none⟩ = some (.bool q.clean) := hPW.two.cell 8
          have p9 : wr3.cell? ⟨w.heap.size, 9, none⟩ = some (.int .i64 p.keep) := hPW.one.cell 9
          have q9 : wr3.cell? ⟨w.heap.size + 1, 9, none⟩ = some (.int .i64 q.keep) := hPW.two.cell 9
          have p10 : wr3.cell? ⟨w.heap.size, 10, none⟩ = some (.bool p.hasWill) := hPW.one.cell 10
          have q10 : wr3.cell? ⟨w.heap.size + 1, 10, none⟩ = some (.bool q.hasWill) := hPW.two.cell 10
          have p11 : wr3.cell? ⟨w.heap.size, 11, none⟩ = some (.string ⟨p.will.topic.toArray⟩) := hPW.one.cell 11
          have q11 : wr3.cell? ⟨w.heap.size + 1, 11, none⟩ = some (.string ⟨q.will.topic.toArray⟩) := hPW.two.cell 11
          have p12 : wr3.cell? ⟨w.heap.size, 12, none⟩ = some (.string ⟨p.will.body.toArray⟩) := hPW.one.cell 12
          have q12 : wr3.cell? ⟨w.heap.size + 1, 12, none⟩ = some (.string ⟨q.will.body.toArray⟩) := hPW.two.cell 12
          have p13 : wr3.cell? ⟨w.heap.size, 13, none⟩ = some (.int .i64 p.will.qos) := hPW.one.cell 13
          have q13 : wr3.cell? ⟨w.heap.size + 1, 13, none⟩ = some (.int .i64 q.will.qos) := hPW.two.cell 13
          have p14 : wr3.cell? ⟨w.heap.size, 14, none⟩ = some (.bool p.will.retain) := hPW.one.cell 14
          have q14 : wr3.cell? ⟨w.heap.size + 1, 14, none⟩ = some (.bool q.will.retain) := hPW.two.cell 14
          have p15 : wr3.cell? ⟨w.heap.size, 15, none⟩ = some (.bool p.hasUser) := hPW.one.cell 15
          have q15 : wr3.cell? ⟨w.heap.size + 1, 15, none⟩ = some (.bool q.hasUser) := hPW.two.cell 15
          have p16 : wr3.cell? ⟨w.heap.size, 16, none⟩ = some (.bool p.hasPass) := hPW.one.cell 16
          have q16 : wr3.cell? ⟨w.heap.size + 1, 16, none⟩ = some (.bool q.hasPass) := hPW.two.cell 16
          have p17 : wr3.cell? ⟨w.heap.size, 17, none⟩ = some (.string ⟨p.user.toArray⟩) := hPW.one.cell 17
          have q17 : wr3.cell? ⟨w.heap.size + 1, 17, none⟩ = some (.string ⟨q.user.toArray⟩) := hPW.two.cell 17
          have p18 : wr3.cell? ⟨w.heap.size, 18, none⟩ = some (.string ⟨p.pass.toArray⟩) := hPW.one.cell 18
          have q18 : wr3.cell? ⟨w.heap.size + 1, 18, none⟩ = some (.string ⟨q.pass.toArray⟩) := hPW.two.cell 18
          have p19 : wr3.cell? ⟨w.heap.size, 19, none⟩ = some (.bool p.present) := hPW.one.cell 19
          have q19 : wr3.cell? ⟨w.heap.size + 1, 19, none⟩ = some (.bool q.present) := hPW.two.cell 19
          have p20 : wr3.cell? ⟨w.heap.size, 20, none⟩ = some (.int .i64 p.code) := hPW.one.cell 20
          have q20 : wr3.cell? ⟨w.heap.size + 1, 20, none⟩ = some (.int .i64 q.code) := hPW.two.cell 20
          replace hPW := hid hPW;have hbr := hid hbr.out;clear hPW hPr HP HQ hb0 hmw hmc hmf;go_upto_region 18 with fail
          go_cut [8] from 89 (fun s8 wx => s8 = .bool (decide (p.kind = q.kind) && decide (p.dup = q.dup) && decide (p.retain = q.retain) && decide (p.qos = q.qos) && decide (p.topic = q.topic) && decide (p.body = q.body) && decide (p.id = q.id)) /\ wr3 = wx)
          case first =>
           go_wp2
           all_goals (go_meet; case rel => refine ⟨?_, rfl⟩; clear hbr heqw heqc heqf hiff; (first | (simp [*]; done) | (simp [*]; rfl)))
          case rest =>
           obtain ⟨rfl, rfl⟩ := hcut
           obtain ⟨cA, hA⟩ : ∃ c, (decide (p.kind = q.kind) && decide (p.dup = q.dup) && decide (p.retain = q.retain) && decide (p.qos = q.qos) && decide (p.topic = q.topic) && decide (p.body = q.body) && decide (p.id = q.id)) = c := ⟨_, rfl⟩
           rw [hA]
           replace hA := hid hA;go_upto_region 19 with fail
           go_cut [9] from 136 (fun s9 wx => s9 = .bool (decide (p.client = q.client) && decide (p.clean = q.clean) && decide (p.keep = q.keep) && decide (p.hasWill = q.hasWill) && decide (p.will.topic = q.will.topic) && decide (p.will.body = q.will.body) && decide (p.will.qos = q.will.qos) && decide (p.will.retain = q.will.retain)) /\ wr3 = wx)
           case first =>
            go_wp2
            all_goals (go_meet; case rel => refine ⟨?_, rfl⟩; clear hbr heqw heqc heqf hiff hA; (first | (simp [*]; done) | (simp [*]; rfl)))
           case rest =>
            obtain ⟨rfl, rfl⟩ := hcut
            obtain ⟨cB, hB⟩ : ∃ c, (decide (p.client = q.client) && decide (p.clean = q.clean) && decide (p.keep = q.keep) && decide (p.hasWill = q.hasWill) && decide (p.will.topic = q.will.topic) && decide (p.will.body = q.will.body) && decide (p.will.qos = q.will.qos) && decide (p.will.retain = q.will.retain)) = c := ⟨_, rfl⟩
            rw [hB]
            replace hB := hid hB
            have hfl : Hid (P -> cA = true /\ cB = true /\ p.hasUser = q.hasUser /\ p.hasPass = q.hasPass /\ p.user = q.user /\ p.pass = q.pass /\ p.present = q.present /\ p.code = q.code) := hid fun e => by
             have h9 := (hiff.out.1 e).flat
             unfold flatB at h9
             simp only [Bool.and_eq_true, decide_eq_true_eq] at h9
             rw [<- hA.out, <- hB.out]
             simp only [Bool.and_eq_true, decide_eq_true_eq]
             simp only [h9, and_self, true_and]
            have hlf : Hid (cA = true -> cB = true -> p.hasUser = q.hasUser -> p.hasPass = q.hasPass -> p.user = q.user -> p.pass = q.pass -> p.present = q.present -> p.code = q.code -> P) := hid fun e1 e2 e3 e4 e5 e6 e7 e8 => by
             refine hiff.out.2 ⟨heqw.out, heqc.out, heqf.out, ?_⟩
             have h1 := hA.out.trans e1
             have h2 := hB.out.trans e2
             simp only [Bool.and_eq_true, decide_eq_true_eq] at h1 h2
             unfold flatB
             simp only [Bool.and_eq_true, decide_eq_true_eq]
             simp only [h1, h2, e3, e4, e5, e6, e7, e8, and_self]
            clear hA hB hiff;cases cA with
            | false =>
             go_wp2
             go_ret
             exact Tells.no (fun e => by have := (hfl.out e).1; cases this) hbr.out
            | true =>
             cases cB with
             | false =>
              go_wp2
              go_ret
              exact Tells.no (fun e => by have := (hfl.out e).2.1; cases this) hbr.out
             | true =>
              go_wp2
              all_goals (go_ret; first
               | exact Tells.no (fun e => by have h9 := hfl.out e; simp_all) hbr.out
               | (refine ⟨_, rfl, ?_, hbr.out⟩; exact ⟨fun h => hlf.out (by trivial) (by trivial) (by assumption) (by assumption) (by assumption) (by assumption) (by assumption) (by simpa using h), fun h => by have h9 := hfl.out h; simp [h9]⟩))
   ·skip
    have hno : Hid (¬ P) := hid fun e => by
     have e6 := (hiff.out.1 e).filters
     have h7 := HP.out.lf.len
     rw [e6, HQ.out.lf.len] at h7
     exact hlf h7
    have dn : ((h.f.n : Int) == (k.f.n : Int)) = false := by simpa using fun e => hlf (by omega)
    go_enter Tryz.func78, Tryz.ntmps78
    go_wp2_with fail
    go_ret
    exact Tells.no hno.out hb0.out
  ·skip
   have hno : Hid (¬ P) := hid fun e => by
    have e6 := (hiff.out.1 e).codes
    have h7 := HP.out.lc.len
    rw [e6, HQ.out.lc.len] at h7
    exact hlc h7
   have dn : ((h.c.n : Int) == (k.c.n : Int)) = false := by simpa using fun e => hlc (by omega)
   go_enter Tryz.func78, Tryz.ntmps78
   go_wp2_with fail
   go_ret
   exact Tells.no hno.out hb0.out
 ·skip
  have hno : Hid (¬ P) := hid fun e => by
   have e6 := (hiff.out.1 e).wants
   have h7 := HP.out.lw.len
   rw [e6, HQ.out.lw.len] at h7
   exact hlw h7
  have dn : ((h.w.n : Int) == (k.w.n : Int)) = false := by simpa using fun e => hlw (by omega)
  go_enter Tryz.func78, Tryz.ntmps78
  go_wp2_with fail
  go_ret
  exact Tells.no hno.out hb0.out
end
section
attribute [local go_sem] Oper.semAt_some
theorem r28_SameTurn (x y : TnC) (w : World) (hx : x.t.In w x.h x.hp) (hy : y.t.In w y.h y.hp) :
  Calls Tryz.prog 30 #[.agg x.cells.toArray, .agg y.cells.toArray] w (Tells (x.t = y.t) w) := by
 have hiff := Tn.same_iff x.t y.t
 obtain ⟨P, hP⟩ : ∃ P : Prop, (x.t = y.t) = P := ⟨_, rfl⟩
 rw [hP] at hiff ⊢
 clear hP;replace hiff := hid hiff;obtain ⟨⟨tk, tc, tp, tb, ta, tn, ti⟩, th, thp⟩ := x
 obtain ⟨⟨uk, uc, up, ub, ua, un, ui⟩, uh, uhp⟩ := y
 dsimp only at *
 have HX := hid hx;have HY := hid hy;obtain ⟨xv, hxv⟩ : ∃ xv, (TnC.cells ⟨⟨tk, tc, tp, tb, ta, tn, ti⟩, th, thp⟩).toArray = xv := ⟨_, rfl⟩
 obtain ⟨yv, hyv⟩ : ∃ yv, (TnC.cells ⟨⟨uk, uc, up, ub, ua, un, ui⟩, uh, uhp⟩).toArray = yv := ⟨_, rfl⟩
 obtain ⟨W0, hW0⟩ : ∃ W0, (w.alloc (.cells xv 55)).alloc (.cells yv 55) = W0 := ⟨_, rfl⟩
 have hb0 : Below w.heap.size w W0 := by rw [<- hW0]; exact ((Below.refl _ _).alloc (Nat.le_refl _) _).alloc (by simp) _
 have hT0 : TB w.heap.size ⟨⟨tk, tc, tp, tb, ta, tn, ti⟩, th, thp⟩ ⟨⟨uk, uc, up, ub, ua, un, ui⟩, uh, uhp⟩ W0 := by
  rw [<- hW0, <- hxv, <- hyv]
  refine ⟨(Blk.new _ _ _).alloc _, ?_⟩
  have := Blk.new (w.alloc (.cells (TnC.cells ⟨⟨tk, tc, tp, tb, ta, tn, ti⟩, th, thp⟩).toArray 55)) (TnC.cells ⟨⟨uk, uc, up, ub, ua, un, ui⟩, uh, uhp⟩).toArray 55
  simpa using this
 have k0 : W0.cell? ⟨w.heap.size, 0, none⟩ = some (.int .i64 tk) := hT0.one.cell 0
 have j0 : W0.cell? ⟨w.heap.size + 1, 0, none⟩ = some (.int .i64 uk) := hT0.two.cell 0
 have k1 : W0.cell? ⟨w.heap.size, 1, none⟩ = some (.int .i64 tc) := hT0.one.cell 1
 have j1 : W0.cell? ⟨w.heap.size + 1, 1, none⟩ = some (.int .i64 uc) := hT0.two.cell 1
 have k26 : W0.cell? ⟨w.heap.size, 26, none⟩ = some (.string ⟨tb.toArray⟩) := hT0.one.cell 26
 have j26 : W0.cell? ⟨w.heap.size + 1, 26, none⟩ = some (.string ⟨ub.toArray⟩) := hT0.two.cell 26
 have k27 : W0.cell? ⟨w.heap.size, 27, none⟩ = some (.int .i64 ta) := hT0.one.cell 27
 have j27 : W0.cell? ⟨w.heap.size + 1, 27, none⟩ = some (.int .i64 ua) := hT0.two.cell 27
 have k28 : W0.cell? ⟨w.heap.size, 28, none⟩ = some (.int .i64 tn) := hT0.one.cell 28
 have j28 : W0.cell? ⟨w.heap.size + 1, 28, none⟩ = some (.int .i64 un) := hT0.two.cell 28
 have k29 : W0.cell? ⟨w.heap.size, 29, none⟩ = some (.slice thp.a thp.n thp.c) := hT0.one.cell 29
 have j29 : W0.cell? ⟨w.heap.size + 1, 29, none⟩ = some (.slice uhp.a uhp.n uhp.c) := hT0.two.cell 29
 have hb0 := hid hb0;have hT0 := hid hT0;rw [hxv, hyv]
 replace hxv := hid hxv;replace hyv := hid hyv;by_cases h0 : tk = uk
 ·subst h0
  by_cases h1 : tc = uc
  ·subst h1
   by_cases h2 : tb = ub
   ·subst h2
    by_cases h3 : ta = ua
    ·subst h3
     by_cases h4 : tn = un
     ·subst h4
      go_enter Tryz.func30, Tryz.ntmps30
      go_wp2_with fail
      refine (r28_SamePicks (HX.out.p.below hb0.out) (HY.out.p.below hb0.out)).mono ?_
      rintro e w1 ⟨b1, rfl, hb1, hbel1⟩
      have hT1 := hT0.out.below hbel1
      have hL1 := hid (hb0.out.trans (hbel1.mono hb0.out.size))
      replace hb1 := hid hb1;clear k0 k1 j0 j1 k26 k27 k28 k29 j26 j27 j28 j29 hbel1;have hm1 := hT1.one.mid [.int .i64 tk, .int .i64 tc] (tp.cells th) [.string ⟨tb.toArray⟩, .int .i64 ta, .int .i64 tn, .slice thp.a thp.n thp.c] rfl
      have hm2 := hT1.two.mid [.int .i64 tk, .int .i64 tc] (up.cells uh) [.string ⟨tb.toArray⟩, .int .i64 ta, .int .i64 tn, .slice uhp.a uhp.n uhp.c] rfl
      replace hT1 := hid hT1;cases b1 with
      | false =>
       have hno : Hid (¬ P) := hid fun e => by have := hb1.out.2 (hiff.out.1 e).2.2.2.2.2.2; cases this
       go_wp2
       go_ret
       exact Tells.no hno.out hL1.out
      | true =>
       go_wp2_with (first
        | (refine wLmG 52 rfl rfl hm1 Tryz.underlying52 ?_)
        | (refine wLmG 52 rfl rfl hm2 Tryz.underlying52 ?_))
       refine (r16_Same tp th up uh w1 (HX.out.pk.below hL1.out) (HY.out.pk.below hL1.out)).mono ?_
       rintro e w2 ⟨b2, rfl, hb2, hbel2⟩
       have hL2 := hid (hL1.out.trans (hbel2.mono hL1.out.size))
       replace hb2 := hid hb2;clear hbel2;go_wp2_with fail
       go_ret
       refine ⟨b2, rfl, ?_, hL2.out⟩
       rw [hb2.out, hiff.out]
       constructor
       ·intro h5
        exact ⟨by trivial, by trivial, h5, by trivial, by trivial, by trivial, by simpa using hb1.out⟩
       ·exact fun h5 => h5.2.2.1
     ·have dn : (tn == un) = false := by simpa using h4
      have hno : Hid (¬ P) := hid fun e => h4 (hiff.out.1 e).2.2.2.2.2.1
      replace h4 := hid h4;go_enter Tryz.func30, Tryz.ntmps30
      go_wp2
      go_ret
      exact Tells.no hno.out hb0.out
    ·have dn : (ta == ua) = false := by simpa using h3
     have hno : Hid (¬ P) := hid fun e => h3 (hiff.out.1 e).2.2.2.2.1
     replace h3 := hid h3;go_enter Tryz.func30, Tryz.ntmps30
     go_wp2
     go_ret
     exact Tells.no hno.out hb0.out
   ·have dn : (tb == ub) = false := by simpa using h2
    have hno : Hid (¬ P) := hid fun e => h2 (hiff.out.1 e).2.2.2.1
    replace h2 := hid h2;go_enter Tryz.func30, Tryz.ntmps30
    go_wp2
    go_ret
    exact Tells.no hno.out hb0.out
  ·have dn : (tc == uc) = false := by simpa using h1
   have hno : Hid (¬ P) := hid fun e => h1 (hiff.out.1 e).2.1
   replace h1 := hid h1;go_enter Tryz.func30, Tryz.ntmps30
   go_wp2
   go_ret
   exact Tells.no hno.out hb0.out
 ·have dn : (tk == uk) = false := by simpa using h0
  have hno : Hid (¬ P) := hid fun e => h0 (hiff.out.1 e).1
  replace h0 := hid h0;go_enter Tryz.func30, Tryz.ntmps30
  go_wp2
  go_ret
  exact Tells.no hno.out hb0.out
end
section
attribute [local go_sem] Oper.semAt_some
theorem map_eq_iff {α β : Type} (f : α -> β) (xs ys : List α) (h : xs.length = ys.length) : xs.map f = ys.map f ↔ ∀ (j : Nat) x y, xs[j]? = some x -> ys[j]? = some y -> f x = f y := by
 constructor
 ·intro e j x y hx hy
  have h1 : (xs.map f)[j]? = some (f x) := by rw [List.getElem?_map, hx]; rfl
  have h2 : (ys.map f)[j]? = some (f y) := by rw [List.getElem?_map, hy]; rfl
  rw [e, h2] at h1
  exact (Option.some.inj h1).symm
 ·intro hall
  apply List.ext_getElem?
  intro j
  rw [List.getElem?_map, List.getElem?_map]
  rcases Nat.lt_or_ge j xs.length with hj | hj
  ·rw [List.getElem?_eq_getElem hj, List.getElem?_eq_getElem (by omega)]
   exact congrArg some (hall j _ _ (List.getElem?_eq_getElem hj) (List.getElem?_eq_getElem (by omega)))
  ·rw [List.getElem?_eq_none hj, List.getElem?_eq_none (by omega)]
end
end Go.Proofs.YtkghejaimhoboaaGreatDoor
