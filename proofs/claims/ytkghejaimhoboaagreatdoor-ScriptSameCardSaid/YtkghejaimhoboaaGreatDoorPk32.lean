/- Parts of the proof of ScriptSame: contracts of functions that it reaches, and plain lemmas. No condition of their own. -/
import Derived.Test.YtkghejaimhoboaaGreatDoorPk31
import Derived.Test.YtkghejaimhoboaaGreatDoorPk15
set_option linter.unusedSimpArgs false
set_option linter.unusedVariables false
set_option maxRecDepth 100000
set_option maxHeartbeats 8000000
namespace Go.Proofs.YtkghejaimhoboaaGreatDoor
open Go.RowKit Go.Shelf
section
attribute [local go_sem] Oper.semAt_some
theorem map_eq_iff {α β : Type} (f : α -> β) (xs ys : List α) (h : xs.length = ys.length) : xs.map f = ys.map f ↔ ∀ (j : Nat) x y, xs[j]? = some x -> ys[j]? = some y -> f x = f y := by
 constructor
 ·intro e j x y hx hy
  have h1 : (xs.map f)[j]? = some (f x) := by rw [List.getElem?_map, hx]; rfl
  have h2 : (ys.map f)[j]? = some (f y) := by rw [List.getElem?_map, hy]; rfl
  rw [e, h2] at h1
  exact (Option.some.inj h1).symm
 ·intro hall
  apply List.ext_getElem?
  intro j
  rw [List.getElem?_map, List.getElem?_map]
  rcases Nat.lt_or_ge j xs.length with hj | hj
  ·rw [List.getElem?_eq_getElem hj, List.getElem?_eq_getElem (by omega)]
   exact congrArg some (hall j _ _ (List.getElem?_eq_getElem hj) (List.getElem?_eq_getElem (by omega)))
  ·rw [List.getElem?_eq_none hj, List.getElem?_eq_none (by omega)]
theorem sc_EqualFunc {w : World} {a1 a2 : Option Addr} {n1 n2 c1 c2 : Nat} {xs ys : List TnC} (h1 : LsAt TnC.cells 30 w a1 n1 c1 xs) (h2 : LsAt TnC.cells 30 w a2 n2 c2 ys) (e1 : ∀ x ∈ xs, x.t.In w x.h x.hp) (e2 : ∀ x ∈ ys, x.t.In w x.h x.hp) :
  Calls Tryz.prog 33 #[.slice a1 n1 c1, .slice a2 n2 c2, .func (.func 34) #[] #[]] w (Tells (xs.map TnC.t = ys.map TnC.t) w) := by
 have hn1 := hid h1.len;have hn2 := hid h2.len;have V1 := hid h1;have V2 := hid h2;have E1 := hid e1;have E2 := hid e2;have hm : n1 <= 9223372036854775807 := by have := h1.le; have := h1.max; unfold maxLen at this; omega
 obtain ⟨P, hP⟩ : ∃ P : Prop, (xs.map TnC.t = ys.map TnC.t) = P := ⟨_, rfl⟩
 rw [hP]
 replace hP := hid hP;clear h1 h2 e1 e2;have he := enters_of Tryz.func34 (by kernel_rfl) rfl
 by_cases hne : n1 = n2
 ·subst hne
  have hiff := hid (map_eq_iff TnC.t xs ys (by rw [hn1.out, hn2.out]))
  go_enter Tryz.func33, Tryz.ntmps33
  go_wp2_with fail
  go_loopw [17] (fun i wr => ∃ k : Nat, i = .int .i64 k /\ k <= n1 /\ Hid (Below w.heap.size w wr) /\ Hid (∀ j x y, j < k -> xs[j]? = some x -> ys[j]? = some y -> x.t = y.t)) (fun i _ => n1 - (intOf i).toNat)
  case atStart => exact ⟨0, rfl, Nat.zero_le _, hid (Below.refl _ _), hid fun j x y h => absurd h (by omega)⟩
  case round =>
   obtain ⟨k, rfl, hk1, hbr, hall⟩ := hrel
   rcases Nat.lt_or_ge k n1 with hlt | hge
   ·obtain ⟨x, hx⟩ : ∃ x, xs[k]? = some x := ⟨_, List.getElem?_eq_getElem (by rw [hn1.out]; omega)⟩
    obtain ⟨y, hy⟩ : ∃ y, ys[k]? = some y := ⟨_, List.getElem?_eq_getElem (by rw [hn2.out]; omega)⟩
    obtain ⟨g1, o1, ha1, hr1⟩ := V1.out.range hx
    obtain ⟨g2, o2, ha2, hr2⟩ := V2.out.range hy
    have hc1 := hr1 _ hbr.out
    subst ha1;subst ha2;have HR2 := hid hr2;have hx1 := hid (E1.out x (List.mem_of_getElem? hx))
    have hy1 := hid (E2.out y (List.mem_of_getElem? hy))
    have ox := hid (Tn.one x.t x.h x.hp)
    have oy := hid (Tn.one y.t y.h y.hp)
    replace hx := hid hx;replace hy := hid hy;obtain ⟨xc, hxc⟩ : ∃ xc, x.cells = xc := ⟨_, rfl⟩
    obtain ⟨yc, hyc⟩ : ∃ yc, y.cells = yc := ⟨_, rfl⟩
    have sx : xc.toArray.size = 30 := by rw [<- hxc]; rfl
    have sy : yc.toArray.size = 30 := by rw [<- hyc]; rfl
    have ox : Hid (∀ v ∈ xc.toArray.toList, v.oneCell' = true) := hid (by rw [<- hxc]; exact ox.out)
    have oy : Hid (∀ v ∈ yc.toArray.toList, v.oneCell' = true) := hid (by rw [<- hyc]; exact oy.out)
    rw [hxc] at hc1
    replace sx := hid sx;replace sy := hid sy;clear hr1 hr2;have hb0 := hbr.out.size
    go_upto_region 6 with (first
     | (refine wLm 55 rfl rfl hc1 Tryz.underlying55 ?_ rfl rfl (by rw [<- hxc]; kernel_rfl))
     | (refine wS 55 30 rfl _ _ _ rfl rfl (Blk.new _ _ _) sx.out rfl ox.out ?_; intro w5 hw5 hr5))
    have hb5 : Below w.heap.size w w5 := (hbr.out.alloc hb0 _).trans (hr5.below (by simp; omega) (by simp; omega))
    have hc2 := HR2.out w5 hb5
    rw [hyc] at hc2
    have hs5 := hb5.size
    have HB5 := hid hb5;have HW5 := hid hw5;have hz5 : wr.heap.size + 1 <= w5.heap.size := by have := hr5.size; simp at this; omega
    clear hb5 hw5 hr5 hc1
    go_upto_region 7 with (first
     | (refine wLm 55 rfl rfl hc2 Tryz.underlying55 ?_ rfl rfl (by rw [<- hyc]; kernel_rfl))
     | (refine wS 55 30 rfl _ _ _ rfl rfl (Blk.new _ _ _) sy.out rfl oy.out ?_; intro w6 hw6 hr6))
    have hb6 : Below w.heap.size w w6 := (HB5.out.alloc hs5 _).trans (hr6.below (by simp; omega) (by simp; omega))
    have hx6 : Blk w6 wr.heap.size xc.toArray 55 := (HW5.out.alloc _).keepW hr6 (by simp; omega)
    have HB6 := hid hb6;have CS := hid (sc_same x y w6 (hx1.out.below hb6) (hy1.out.below hb6))
    rw [hxc, hyc] at CS
    have ix : (Tryz.prog.info? 55).map (·.size) = some xc.toArray.size := by rw [sx.out]; exact (by kernel_rfl : (Tryz.prog.info? 55).map (·.size) = some 30)
    have iy : (Tryz.prog.info? 55).map (·.size) = some yc.toArray.size := by rw [sy.out]; exact (by kernel_rfl : (Tryz.prog.info? 55).map (·.size) = some 30)
    clear hb6 hr6 hc2
    go_wp2_with (first
     | (refine wL 55 rfl rfl hx6 Tryz.underlying55 ?_ rfl rfl ix)
     | (refine wL 55 rfl rfl hw6 Tryz.underlying55 ?_ rfl rfl iy))
    refine CS.out.mono ?_
    rintro e w7 ⟨b, rfl, hb, hb7⟩
    have HB7 := hid (HB6.out.trans (hb7.mono HB6.out.size))
    replace hb := hid hb;clear hb7;cases b with
    | false =>
     go_wp2_with fail
     go_ret
     refine Tells.no (fun e => ?_) HB7.out
     rw [<- hP.out, hiff.out] at e
     have h7 := hb.out.2 (e k x y hx.out hy.out)
     cases h7
    | true =>
     have hxy : Hid (x.t = y.t) := hid (hb.out.1 rfl)
     clear hb;go_wp2_with fail
     go_roundw
     case rel =>
      refine ⟨k + 1, by go_num, by omega, HB7, hid fun j x' y' hj h7 h8 => ?_⟩
      by_cases hjk : j = k
      ·subst hjk
       rw [hx.out] at h7
       rw [hy.out] at h8
       cases h7
       cases h8
       exact hxy.out
      ·exact hall.out j x' y' (by omega) h7 h8
     case measure => simp [intOf]; omega
   ·obtain rfl : k = n1 := by omega
    go_wp2_with fail
    go_ret
    refine Tells.yes ?_ hbr.out
    rw [<- hP.out, hiff.out]
    intro j x y hx hy
    exact hall.out j x y (by have := (List.getElem?_eq_some_iff.1 hx).1; rw [hn1.out] at this; exact this) hx hy
 ·have hno : Hid (¬ P) := hid fun e => by
   rw [<- hP.out] at e
   have h7 := congrArg List.length e
   rw [List.length_map, List.length_map, hn1.out, hn2.out] at h7
   exact hne h7
  have dn : ((n1 : Int) == (n2 : Int)) = false := by simpa using fun h => hne (by omega)
  go_enter Tryz.func33, Tryz.ntmps33
  go_wp2_with fail
  go_ret
  exact Tells.no hno.out (Below.refl _ _)
end
section
attribute [local go_sem] Oper.semAt_some
theorem cfg_eql (a0 b0 : Int) (a1 b1 : Int) (a2 b2 : Int) (a3 b3 : Int) (a4 b4 : Int) (a5 b5 : Int) (a6 b6 : List UInt8) (W : World) : (binOp .eql 27 (.agg #[.int .i64 a0, .int .i64 a1, .int .i64 a2, .int .i64 a3, .int .i64 a4, .int .i64 a5, .string ⟨a6.toArray⟩]) (.agg #[.int .i64 b0, .int .i64 b1, .int .i64 b2, .int .i64 b3, .int .i64 b4, .int .i64 b5, .string ⟨b6.toArray⟩])).run Tryz.prog W = .ok (.bool (decide (a0 = b0) && decide (a1 = b1) && decide (a2 = b2) && decide (a3 = b3) && decide (a4 = b4) && decide (a5 = b5) && decide (a6 = b6))) W := by
 go_simp;by_cases h0 : a0 = b0
 ·subst h0
  by_cases h1 : a1 = b1
  ·subst h1
   by_cases h2 : a2 = b2
   ·subst h2
    by_cases h3 : a3 = b3
    ·subst h3
     by_cases h4 : a4 = b4
     ·subst h4
      by_cases h5 : a5 = b5
      ·subst h5
       by_cases h6 : a6 = b6
       ·subst h6
        simp
       ·simp [h6]
      ·simp [h5]
     ·simp [h4]
    ·simp [h3]
   ·simp [h2]
  ·simp [h1]
 ·simp [h0]
theorem cfg_neq (a0 b0 : Int) (a1 b1 : Int) (a2 b2 : Int) (a3 b3 : Int) (a4 b4 : Int) (a5 b5 : Int) (a6 b6 : List UInt8) (W : World) : (binOp .neq 27 (.agg #[.int .i64 a0, .int .i64 a1, .int .i64 a2, .int .i64 a3, .int .i64 a4, .int .i64 a5, .string ⟨a6.toArray⟩]) (.agg #[.int .i64 b0, .int .i64 b1, .int .i64 b2, .int .i64 b3, .int .i64 b4, .int .i64 b5, .string ⟨b6.toArray⟩])).run Tryz.prog W = .ok (.bool (!(decide (a0 = b0) && decide (a1 = b1) && decide (a2 = b2) && decide (a3 = b3) && decide (a4 = b4) && decide (a5 = b5) && decide (a6 = b6)))) W := by
 go_simp;by_cases h0 : a0 = b0
 ·subst h0
  by_cases h1 : a1 = b1
  ·subst h1
   by_cases h2 : a2 = b2
   ·subst h2
    by_cases h3 : a3 = b3
    ·subst h3
     by_cases h4 : a4 = b4
     ·subst h4
      by_cases h5 : a5 = b5
      ·subst h5
       by_cases h6 : a6 = b6
       ·subst h6
        simp
       ·simp [h6]
      ·simp [h5]
     ·simp [h4]
    ·simp [h3]
   ·simp [h2]
  ·simp [h1]
 ·simp [h0]
def cfB (c d : CfV) : Bool := decide (c.window = d.window) && decide (c.room = d.room) && decide (c.inbox = d.inbox) && decide (c.subs = d.subs) && decide (c.sessions = d.sessions) && decide (c.retained = d.retained) && decide (c.secret = d.secret)
theorem cf_eql (c d : CfV) (W : World) : (binOp .eql 27 (.agg c.cl.toArray) (.agg d.cl.toArray)).run Tryz.prog W = .ok (.bool (cfB c d)) W := cfg_eql _ _ _ _ _ _ _ _ _ _ _ _ _ _ W
theorem cf_neq (c d : CfV) (W : World) : (binOp .neq 27 (.agg c.cl.toArray) (.agg d.cl.toArray)).run Tryz.prog W = .ok (.bool (!cfB c d)) W := cfg_neq _ _ _ _ _ _ _ _ _ _ _ _ _ _ W
theorem cf_gu (c d : CfV) (s1 s2 : Operand) (W : World) : (eqGuard .eql 27 s1 s2 (.agg c.cl.toArray) (.agg d.cl.toArray)).run Tryz.prog W = .ok () W := by
 unfold CfV.cl
 go_simp
theorem cf_gun (c d : CfV) (s1 s2 : Operand) (W : World) : (eqGuard .neq 27 s1 s2 (.agg c.cl.toArray) (.agg d.cl.toArray)).run Tryz.prog W = .ok () W := by
 unfold CfV.cl
 go_simp
theorem cfB_iff (c d : CfV) : cfB c d = true ↔ c = d := by
 obtain ⟨a1, a2, a3, a4, a5, a6, a7⟩ := c
 obtain ⟨b1, b2, b3, b4, b5, b6, b7⟩ := d
 unfold cfB
 simp only [Bool.and_eq_true, decide_eq_true_eq, CfV.mk.injEq, and_assoc]
structure SEq (s t : ScC) : Prop where
 cf : cfB s.cf t.cf = true
 pages : s.pages = t.pages
 ts : s.ts.map TnC.t = t.ts.map TnC.t
theorem SEq.iff (s t : ScC) : s.sc = t.sc ↔ SEq s t := by
 unfold ScC.sc
 rw [Sc.mk.injEq]
 constructor
 ·rintro ⟨a, b, c⟩
  exact ⟨(cfB_iff _ _).2 a, b, c⟩
 ·rintro ⟨a, b, c⟩
  exact ⟨(cfB_iff _ _).1 a, b, c⟩
theorem sc_Same (s t : ScC) (w : World) (hs : s.In w) (ht : t.In w) :
  Calls Tryz.prog 13 #[.agg s.cells.toArray, .agg t.cells.toArray] w (Tells (s.sc = t.sc) w) := by
 have hiff := SEq.iff s t
 obtain ⟨P, hP⟩ : ∃ P : Prop, (s.sc = t.sc) = P := ⟨_, rfl⟩
 rw [hP] at hiff ⊢
 clear hP;replace hiff := hid hiff;have HS := hid hs;have HT := hid ht;obtain ⟨sv, hsv⟩ : ∃ sv, s.cells.toArray = sv := ⟨_, rfl⟩
 obtain ⟨tv, htv⟩ : ∃ tv, t.cells.toArray = tv := ⟨_, rfl⟩
 obtain ⟨W0, hW0⟩ : ∃ W0, (w.alloc (.cells sv 30)).alloc (.cells tv 30) = W0 := ⟨_, rfl⟩
 have hb0 : Below w.heap.size w W0 := by rw [<- hW0]; exact ((Below.refl _ _).alloc (Nat.le_refl _) _).alloc (by simp) _
 have b1 : Blk W0 w.heap.size s.cells.toArray 30 := by
  rw [<- hW0, <- hsv, <- htv]
  exact (Blk.new _ _ _).alloc _
 have b2 : Blk W0 (w.heap.size + 1) t.cells.toArray 30 := by
  rw [<- hW0, <- hsv, <- htv]
  have := Blk.new (w.alloc (.cells s.cells.toArray 30)) t.cells.toArray 30
  simpa using this
 have m1 := b1.mid [] s.cf.cl [.int .i64 s.pages, .slice s.ht.a s.ht.n s.ht.c] rfl
 have m2 := b2.mid [] t.cf.cl [.int .i64 t.pages, .slice t.ht.a t.ht.n t.ht.c] rfl
 have k7 : W0.cell? ⟨w.heap.size, 7, none⟩ = some (.int .i64 s.pages) := b1.cell 7
 have j7 : W0.cell? ⟨w.heap.size + 1, 7, none⟩ = some (.int .i64 t.pages) := b2.cell 7
 have k8 : W0.cell? ⟨w.heap.size, 8, none⟩ = some (.slice s.ht.a s.ht.n s.ht.c) := b1.cell 8
 have j8 : W0.cell? ⟨w.heap.size + 1, 8, none⟩ = some (.slice t.ht.a t.ht.n t.ht.c) := b2.cell 8
 have hq := cf_eql s.cf t.cf
 have hg := cf_gu s.cf t.cf
 obtain ⟨v1, hv1⟩ : ∃ v, Value.agg s.cf.cl.toArray = v := ⟨_, rfl⟩
 obtain ⟨v2, hv2⟩ : ∃ v, Value.agg t.cf.cl.toArray = v := ⟨_, rfl⟩
 obtain ⟨c1, hc1⟩ : ∃ c, cfB s.cf t.cf = c := ⟨_, rfl⟩
 rw [hv1, hv2, hc1] at hq
 rw [hv1, hv2] at hg
 have l1 : ∀ W, W0 = W -> (Instr.loadAt 27 (.pointer (some ⟨w.heap.size, 0, none⟩))).run Tryz.prog W = .ok v1 W := by
  rintro W rfl
  rw [<- hv1]
  exact run_loadAt_mid _ _ _ 27 s.cf.cl _ m1 Tryz.underlying27 rfl (by kernel_rfl)
 have l2 : ∀ W, W0 = W -> (Instr.loadAt 27 (.pointer (some ⟨w.heap.size + 1, 0, none⟩))).run Tryz.prog W = .ok v2 W := by
  rintro W rfl
  rw [<- hv2]
  exact run_loadAt_mid _ _ _ 27 t.cf.cl _ m2 Tryz.underlying27 rfl (by kernel_rfl)
 have l1 := hid l1;have l2 := hid l2;have hb0 := hid hb0;replace hc1 := hid hc1;have V1 := hid hv1;have V2 := hid hv2;clear hs ht b1 b2;rw [hsv, htv]
 replace hsv := hid hsv;replace htv := hid htv;clear l1 l2;cases c1 with
 | false =>
  have hno : Hid (¬ P) := hid fun e => by have h7 := (hiff.out.1 e).cf; rw [hc1.out] at h7; cases h7
  go_enter Tryz.func13, Tryz.ntmps13
  go_wp2_with (first
   | (refine wLm 27 rfl rfl m1 Tryz.underlying27 ?_)
   | (refine wLm 27 rfl rfl m2 Tryz.underlying27 ?_))
  go_ret
  exact Tells.no hno.out hb0.out
 | true =>
  by_cases hp : s.pages = t.pages
  ·skip
   go_enter Tryz.func13, Tryz.ntmps13
   go_wp2_with (first
    | (refine wLm 27 rfl rfl m1 Tryz.underlying27 ?_)
    | (refine wLm 27 rfl rfl m2 Tryz.underlying27 ?_))
   refine (sc_EqualFunc (HS.out.t.below hb0.out) (HT.out.t.below hb0.out) (fun x hx => (HS.out.each x hx).below hb0.out) (fun x hx => (HT.out.each x hx).below hb0.out)).mono ?_
   rintro e w1 ⟨b, rfl, hb, hb1⟩
   have HB1 := hid (hb0.out.trans (hb1.mono hb0.out.size))
   replace hb := hid hb;have hp := hid hp;clear hb1;go_wp2_with fail
   go_ret
   refine ⟨b, rfl, ?_, HB1.out⟩
   rw [hb.out, hiff.out]
   exact ⟨fun h => ⟨hc1.out, hp.out, h⟩, fun h => h.ts⟩
  ·have dn : (s.pages == t.pages) = false := by simpa using hp
   have hno : Hid (¬ P) := hid fun e => hp (hiff.out.1 e).pages
   replace hp := hid hp;go_enter Tryz.func13, Tryz.ntmps13
   go_wp2_with (first
    | (refine wLm 27 rfl rfl m1 Tryz.underlying27 ?_)
    | (refine wLm 27 rfl rfl m2 Tryz.underlying27 ?_))
   go_ret
   exact Tells.no hno.out hb0.out
end
section
attribute [local go_sem] Oper.semAt_some
structure SB (b : Nat) (s t : ScC) (w : World) : Prop where
 one : Blk w b s.cells.toArray 30
 two : Blk w (b + 1) t.cells.toArray 30
theorem SB.below {b : Nat} {s t : ScC} {w w' : World} (h : SB b s t w) (hb : Below w.heap.size w w') : SB b s t w' := ⟨h.one.below hb, h.two.below hb⟩
theorem r28_Same (s t : ScC) (w : World) (hs : s.In w) (ht : t.In w) :
  Calls Tryz.prog 10 #[.agg s.cells.toArray, .agg t.cells.toArray] w (Tells (s.sc = t.sc) w) := by
 have hiff := SEq.iff s t
 obtain ⟨P, hP⟩ : ∃ P : Prop, (s.sc = t.sc) = P := ⟨_, rfl⟩
 rw [hP] at hiff ⊢
 clear hP;replace hiff := hid hiff;have HS := hid hs;have HT := hid ht;obtain ⟨sv, hsv⟩ : ∃ sv, s.cells.toArray = sv := ⟨_, rfl⟩
 obtain ⟨tv, htv⟩ : ∃ tv, t.cells.toArray = tv := ⟨_, rfl⟩
 obtain ⟨W0, hW0⟩ : ∃ W0, (w.alloc (.cells sv 30)).alloc (.cells tv 30) = W0 := ⟨_, rfl⟩
 have hb0 : Below w.heap.size w W0 := by rw [<- hW0]; exact ((Below.refl _ _).alloc (Nat.le_refl _) _).alloc (by simp) _
 have b1 : Blk W0 w.heap.size s.cells.toArray 30 := by
  rw [<- hW0, <- hsv, <- htv]
  exact (Blk.new _ _ _).alloc _
 have b2 : Blk W0 (w.heap.size + 1) t.cells.toArray 30 := by
  rw [<- hW0, <- hsv, <- htv]
  have := Blk.new (w.alloc (.cells s.cells.toArray 30)) t.cells.toArray 30
  simpa using this
 have m1 := b1.mid [] s.cf.cl [.int .i64 s.pages, .slice s.ht.a s.ht.n s.ht.c] rfl
 have m2 := b2.mid [] t.cf.cl [.int .i64 t.pages, .slice t.ht.a t.ht.n t.ht.c] rfl
 have k7 : W0.cell? ⟨w.heap.size, 7, none⟩ = some (.int .i64 s.pages) := b1.cell 7
 have j7 : W0.cell? ⟨w.heap.size + 1, 7, none⟩ = some (.int .i64 t.pages) := b2.cell 7
 have k8 : W0.cell? ⟨w.heap.size, 8, none⟩ = some (.slice s.ht.a s.ht.n s.ht.c) := b1.cell 8
 have j8 : W0.cell? ⟨w.heap.size + 1, 8, none⟩ = some (.slice t.ht.a t.ht.n t.ht.c) := b2.cell 8
 have hq := cf_neq s.cf t.cf
 have hg := cf_gun s.cf t.cf
 obtain ⟨v1, hv1⟩ : ∃ v, Value.agg s.cf.cl.toArray = v := ⟨_, rfl⟩
 obtain ⟨v2, hv2⟩ : ∃ v, Value.agg t.cf.cl.toArray = v := ⟨_, rfl⟩
 obtain ⟨c1, hc1⟩ : ∃ c, cfB s.cf t.cf = c := ⟨_, rfl⟩
 rw [hv1, hv2, hc1] at hq
 rw [hv1, hv2] at hg
 have hb0 := hid hb0;replace hc1 := hid hc1;have V1 := hid hv1;have V2 := hid hv2;have hSB : SB w.heap.size s t W0 := ⟨b1, b2⟩
 have hSB := hid hSB;have hm : s.ht.n <= 9223372036854775807 := by have := hs.t.le; have := hs.t.max; unfold maxLen at this; omega
 clear hs ht b1 b2;rw [hsv, htv]
 replace hsv := hid hsv;replace htv := hid htv;cases c1 with
 | false =>
  have hno : Hid (¬ P) := hid fun e => by have h7 := (hiff.out.1 e).cf; rw [hc1.out] at h7; cases h7
  go_enter Tryz.func10, Tryz.ntmps10
  go_wp2_with (first
   | (refine wLm 27 rfl rfl m1 Tryz.underlying27 ?_)
   | (refine wLm 27 rfl rfl m2 Tryz.underlying27 ?_))
  go_ret
  exact Tells.no hno.out hb0.out
 | true =>
  by_cases hp : s.pages = t.pages
  ·by_cases hl : t.ht.n = s.ht.n
   ·skip
    go_enter Tryz.func10, Tryz.ntmps10
    go_wp2_with (first
     | (refine wLm 27 rfl rfl m1 Tryz.underlying27 ?_)
     | (refine wLm 27 rfl rfl m2 Tryz.underlying27 ?_))
    have hp := hid hp;clear m1 m2 k7 j7;go_loopw [5] (fun i wr => ∃ j : Nat, i = .int .i64 j /\ j <= s.ht.n /\ Hid (Below w.heap.size w wr) /\ Hid (SB w.heap.size s t wr) /\ Hid (∀ (m : Nat) x y, m < j -> s.ts[m]? = some x -> t.ts[m]? = some y -> x.t = y.t)) (fun i _ => s.ht.n - (intOf i).toNat)
    case atStart => exact ⟨0, rfl, Nat.zero_le _, hb0, hSB, hid fun m x y hm => absurd hm (by omega)⟩
    case round =>
     obtain ⟨j, rfl, hj, hbr, hPr, hall⟩ := hrel
     have p8 : wr.cell? ⟨w.heap.size, 8, none⟩ = some (.slice s.ht.a s.ht.n s.ht.c) := hPr.out.one.cell 8
     rcases Nat.lt_or_ge j s.ht.n with hlt | hge
     ·obtain ⟨x, hx⟩ : ∃ x, s.ts[j]? = some x := ⟨_, List.getElem?_eq_getElem (by rw [HS.out.t.len]; omega)⟩
      obtain ⟨y, hy⟩ : ∃ y, t.ts[j]? = some y := ⟨_, List.getElem?_eq_getElem (by rw [HT.out.t.len, hl]; omega)⟩
      obtain ⟨g1, o1, ha1, hr1⟩ := HS.out.t.range hx
      obtain ⟨g2, o2, ha2, hr2⟩ := HT.out.t.range hy
      have hc1' := hr1 _ hbr.out.drew
      have hc2' := hr2 _ hbr.out.drew
      have hPd : SB w.heap.size s t wr.drew := ⟨hPr.out.one, hPr.out.two⟩
      have hbd := hid hbr.out.drew;have CS := hid (r28_SameTurn x y wr.drew ((HS.out.each x (List.mem_of_getElem? hx)).below hbd.out) ((HT.out.each y (List.mem_of_getElem? hy)).below hbd.out))
      replace hx := hid hx;replace hy := hid hy;obtain ⟨xc, hxc⟩ : ∃ xc, x.cells = xc := ⟨_, rfl⟩
      obtain ⟨yc, hyc⟩ : ∃ yc, y.cells = yc := ⟨_, rfl⟩
      rw [hxc, hyc] at CS
      have hs1 : Hid (s.cells.toArray[8]? = some (.slice (some ⟨g1, o1, none⟩) s.ht.n s.ht.c)) := hid (by rw [<- ha1]; rfl)
      have hs2 : Hid (t.cells.toArray[8]? = some (.slice (some ⟨g2, o2, none⟩) t.ht.n t.ht.c)) := hid (by rw [<- ha2]; rfl)
      replace hxc := hid hxc;replace hyc := hid hyc;replace ha1 := hid ha1;replace ha2 := hid ha2;clear hr1 hr2;go_wp2_with fail
      refine regionQ [(1000, fun w' => SB w.heap.size s t w'), (1000, fun w' => w'.rangeAt g1 (o1 + j * 30) x.cells), (1000, fun w' => w'.rangeAt g2 (o2 + j * 30) y.cells)] (by kernel_rfl) ⟨hPd, hc1', hc2', trivial⟩ fun KQ hKQ => ?_
      refine tQ [0] ?_;refine lR 1 0 rfl rfl rfl rfl (fun w' hf => by (have k0 := (hf.one.cell 8).trans hs1.out; go_simp <;> with_reducible rfl)) ?_
      simp only [PT];refine tQ [2, 3] ?_;refine lR 4 1 rfl rfl rfl rfl (v := .agg xc.toArray) (fun w' hf => by rw [<- hxc.out]; exact run_loadAt_mid w' _ _ 55 x.cells _ hf Tryz.underlying55 rfl (by kernel_rfl)) ?_
      try simp only [PT]
      refine tQ [5] ?_;refine lR 6 0 rfl rfl rfl rfl (fun w' hf => by (have k0 := (hf.two.cell 8).trans hs2.out; go_simp <;> with_reducible rfl)) ?_
      simp only [PT];refine tQ [7, 8] ?_;refine lR 9 2 rfl rfl rfl rfl (v := .agg yc.toArray) (fun w' hf => by rw [<- hyc.out]; exact run_loadAt_mid w' _ _ 55 y.cells _ hf Tryz.underlying55 rfl (by kernel_rfl)) ?_
      try simp only [PT]
      refine sQ 10 fun K hK => ?_;simp only [GO];go_simp;refine CS.out.mono ?_
      rintro e w7 ⟨bb, rfl, hbb, hb7⟩
      have hS7 : SB w.heap.size s t w7 := hPd.below hb7
      have HS7 := hid hS7;have HB7 := hid (hbd.out.trans (hb7.mono hbd.out.size))
      have hc17 : w7.rangeAt g1 (o1 + j * 30) x.cells := range_below hc1' (by have := (HS.out.t.at' j x hx.out); obtain ⟨g', o', e1, e2, e3⟩ := this; rw [ha1.out] at e1; cases e1; have := hbd.out.size; omega) hb7
      have hc27 : w7.rangeAt g2 (o2 + j * 30) y.cells := range_below hc2' (by have := (HT.out.t.at' j y hy.out); obtain ⟨g', o', e1, e2, e3⟩ := this; rw [ha2.out] at e1; cases e1; have := hbd.out.size; omega) hb7
      replace hbb := hid hbb;refine hK _ _ ⟨⟨fun _ => hS7, fun _ => hc17, fun _ => hc27, trivial⟩, ?_⟩
      clear hK K hb7 hc17 hc27 hc1' hc2';try simp only [PT]
      refine tQ [11] ?_;refine dQ (hKQ.out _ _ ?_);clear hKQ KQ;cases bb with
      | false =>
       go_wp2_with fail
       go_ret
       refine Tells.no (fun e => ?_) HB7.out
       have h7 := (hiff.out.1 e).ts
       have h8 : (s.ts.map TnC.t)[j]? = some x.t := by rw [List.getElem?_map, hx.out]; rfl
       have h9 : (t.ts.map TnC.t)[j]? = some y.t := by rw [List.getElem?_map, hy.out]; rfl
       rw [h7, h9] at h8
       have h10 := hbb.out.2 (Option.some.inj h8).symm
       cases h10
      | true =>
       have hxy : Hid (x.t = y.t) := hid (hbb.out.1 rfl)
       clear hbb;go_wp2_with fail
       go_roundw
       case rel =>
        refine ⟨j + 1, by go_num, by omega, HB7, HS7, hid fun m x' y' hm h7 h8 => ?_⟩
        by_cases hmj : m = j
        ·subst hmj
         rw [hx.out] at h7
         rw [hy.out] at h8
         cases h7
         cases h8
         exact hxy.out
        ·exact hall.out m x' y' (by omega) h7 h8
       case measure => simp [intOf]; omega
     ·obtain rfl : j = s.ht.n := by omega
      go_wp2_with fail
      go_ret
      refine Tells.yes (hiff.out.2 ⟨hc1.out, hp.out, ?_⟩) hbr.out
      rw [map_eq_iff TnC.t s.ts t.ts (by rw [HS.out.t.len, HT.out.t.len, hl])]
      intro m x y hx hy
      exact hall.out m x y (by have := (List.getElem?_eq_some_iff.1 hx).1; rw [HS.out.t.len] at this; exact this) hx hy
   ·have dn : ((s.ht.n : Int) == (t.ht.n : Int)) = false := by simpa using fun e => hl (by omega)
    have hno : Hid (¬ P) := hid fun e => by
     have h7 := congrArg List.length (hiff.out.1 e).ts
     rw [List.length_map, List.length_map, HS.out.t.len, HT.out.t.len] at h7
     exact hl h7.symm
    replace hl := hid hl;go_enter Tryz.func10, Tryz.ntmps10
    go_wp2_with (first
     | (refine wLm 27 rfl rfl m1 Tryz.underlying27 ?_)
     | (refine wLm 27 rfl rfl m2 Tryz.underlying27 ?_))
    go_ret
    exact Tells.no hno.out hb0.out
  ·have dn : (s.pages == t.pages) = false := by simpa using hp
   have hno : Hid (¬ P) := hid fun e => hp (hiff.out.1 e).pages
   replace hp := hid hp;go_enter Tryz.func10, Tryz.ntmps10
   go_wp2_with (first
    | (refine wLm 27 rfl rfl m1 Tryz.underlying27 ?_)
    | (refine wLm 27 rfl rfl m2 Tryz.underlying27 ?_))
   go_ret
   exact Tells.no hno.out hb0.out
end
section
theorem getObj_m {P : Program} {w : World} {r : Nat} {es : Array MapEntry} {c : Nat} (h : w.heap[r]? = some (.map es c)) : (getObj r).run P w = .ok (.map es c) w := by simp [getObj, Sem.run, h]
theorem getObj_i {P : Program} {w : World} {r : Nat} {m : Option Nat} {s l : Nat} {q : Array Nat} (h : w.heap[r]? = some (.mapIter m s q l)) : (getObj r).run P w = .ok (.mapIter m s q l) w := by simp [getObj, Sem.run, h]
theorem run_range_none {P : Program} {t k e : TypeId} (ht : P.underlying t = some (.map k e)) {w : World} {m : Nat} {cl : Nat} (h : w.heap[m]? = some (.map #[] cl)) :
  (Instr.range t (.map (some m))).run P w = .ok (.pointer (some ⟨w.heap.size, 0, none⟩)) (w.alloc (.mapIter (some m) cl #[] cl)) := by
 simp [Instr.range, run_underlying ht, getObj_m h]
theorem run_next_none {P : Program} {w : World} {r m s l cl : Nat} {ty : TypeId} (hr : w.heap[r]? = some (.mapIter (some m) s #[] l)) (h : w.heap[m]? = some (.map #[] cl)) :
  (Instr.next (.pointer (some ⟨r, 0, none⟩)) false ty).run P w = .ok (.tuple #[.bool false]) w := by
 have hf : (Question.mapNext 1).forced = true := by decide
 simp [Instr.next, getObj_i hr, getObj_m h, hf]
theorem run_len_none {P : Program} {t k e : TypeId} (ht : P.underlying t = some (.map k e)) {w : World} {b cl : Nat} (h : w.heap[b]? = some (.map #[] cl)) (ty : TypeId) : (Builtin.len_ #[t] ty #[.map (some b)]).run P w = .ok (.int .i64 0) w := by
 simp [Builtin.len_, Builtin.lenOf, run_underlying ht, getObj_m h, goInt]
section
variable {P : Program} {ops : Array Oper} {KQ : Exit -> Act -> World -> Prop} {facts : List Fact} {taken : List Nat} {a : Act} {w : World}
theorem lenQ (i n : Nat) {oi : Oper} {x : Operand} {tys : Array TypeId} {u v : Value} {k : Nat} {p : World -> Prop} (hi : ops[i]? = some oi) (hop : oi.op = .call { callee := .builtin .len, args := #[x], argTypes := tys }) (hx : a.eval x = u) (hf : facts[n]? = some (k, p))
  (hr : ∀ w', p w' -> (Builtin.len_ tys oi.type #[u]).run P w' = .ok v w') (h : atR P ops KQ facts (i :: taken) (a.put oi.dst v) w)
  (hB : takeB ops (facts.map (·.1)) taken i = true := by kernel_rfl) (hw : Region.wanted oi (yielded ops a.tmps) = true := by kernel_rfl) (hk : waits .any ops k i = true := by kernel_rfl) : atR P ops KQ facts taken a w := by
 refine readQ i hi hB v hw (fun w' hu => ?_) h
 have h1 := hr w' (hu.get k p (List.mem_of_getElem? hf) hk)
 simp [execOp, hop, resolve, invoke, builtin, hx, h1]
end
end
end Go.Proofs.YtkghejaimhoboaaGreatDoor
