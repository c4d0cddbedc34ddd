/- Parts of the proof of ScriptCuts: contracts of functions that it reaches, and plain lemmas. No condition of their own. -/
import Derived.Test.YtkghejaimhoboaaGreatDoorPk45
import Derived.Test.YtkghejaimhoboaaGreatDoorPk47
import Derived.Test.YtkghejaimhoboaaGreatDoorPk48
import Derived.Test.YtkghejaimhoboaaGreatDoorPk40
import Derived.Test.YtkghejaimhoboaaGreatDoorPk30
import Derived.Test.YtkghejaimhoboaaGreatDoorPk28
import Derived.Test.YtkghejaimhoboaaGreatDoorPk44
import Derived.Test.YtkghejaimhoboaaGreatDoorPk34
import Derived.Deep.CutRange
set_option linter.unusedSimpArgs false
set_option linter.unusedVariables false
set_option maxRecDepth 100000
set_option maxHeartbeats 8000000
namespace Go.Proofs.YtkghejaimhoboaaGreatDoor
open Go.RowKit Go.Shelf
section
attribute [local go_sem] Oper.semAt_some
structure FewP (w : World) (e : Ending) (w' : World) : Prop where
 out : ∃ b : Bool, e = .returned (.bool b) /\ Below w.heap.size w w'
theorem law28_few (s : ScC) (most : Int) (w : World) (hs : s.In w) : Calls Tryz.prog 12 #[.agg s.cells.toArray, .int .i64 most] w (FewP w) := by
 obtain ⟨sv, hsv⟩ : ∃ sv, s.cells.toArray = sv := ⟨_, rfl⟩
 obtain ⟨W0, hW0⟩ : ∃ W0, w.alloc (.cells sv 30) = W0 := ⟨_, rfl⟩
 have hb0 : Hid (Below w.heap.size w W0) := hid (by rw [<- hW0]; exact (Below.refl _ _).alloc (Nat.le_refl _) _)
 have hB : Hid (Blk W0 w.heap.size s.cells.toArray 30) := hid (by rw [<- hW0, <- hsv]; exact Blk.new _ _ _)
 have HL := hs.t.len
 have HS := hid hs;obtain ⟨n, hn⟩ : ∃ n, s.ht.n = n := ⟨_, rfl⟩
 obtain ⟨sa, hsa⟩ : ∃ a, s.ht.a = a := ⟨_, rfl⟩
 obtain ⟨sc, hsc⟩ : ∃ c, s.ht.c = c := ⟨_, rfl⟩
 have HN := hid (show s.ts.length = n by rw [HL, hn])
 have HS1 := hid (HS.out.t)
 rw [hn, hsa, hsc] at HS1
 have hK : Hid (∀ W, Below W0.heap.size W0 W -> W.cell? ⟨w.heap.size, 8, none⟩ = some (.slice sa n sc) /\ ∃ bs : ByteArray, W.cell? ⟨w.heap.size, 6, none⟩ = some (.string bs)) := hid fun W hb => by
  have h := hB.out.below hb
  rw [<- hn, <- hsa, <- hsc]
  exact ⟨h.cell 8, _, h.cell 6⟩
 clear hn hsa hsc HL hs;rw [hsv]
 replace hsv := hid hsv;have hM : n <= 9223372036854775807 := by have := HS1.out.le; have := HS1.out.max; unfold maxLen at this; omega
 go_enter Tryz.func12, Tryz.ntmps12
 go_wp2_with fail
 go_loopw [5, 6] (fun z i wr => ∃ (k : Nat) (y : Int), i = .int .i64 k /\ z = .int .i64 y /\ k <= n /\ Hid (Below W0.heap.size W0 wr)) (fun _ i _ => n - (intOf i).toNat)
 case atStart => exact ⟨0, 0, rfl, rfl, Nat.zero_le _, hid (by rw [<- hW0]; exact Below.refl _ _)⟩
 case round =>
  obtain ⟨k, y, rfl, rfl, hk1, hI⟩ := hrel
  obtain ⟨k8, bs, k6⟩ := hK.out _ hI.out
  have hF := hid (hb0.out.trans (hI.out.mono hb0.out.size))
  rcases Nat.lt_or_ge k n with hlt | hge
  ·obtain ⟨x, hx⟩ : ∃ x, s.ts[k]? = some x := ⟨_, List.getElem?_eq_getElem (by rw [HN.out]; exact hlt)⟩
   obtain ⟨g1, o1, ha1, hr1⟩ := HS1.out.range hx
   have hc1 := hr1 _ hF.out
   subst ha1;have hxin := hid (HS.out.each x (List.mem_of_getElem? hx))
   have ox := hid (Tn.one x.t x.h x.hp)
   obtain ⟨xc, hxc⟩ : ∃ xc, x.cells = xc := ⟨_, rfl⟩
   have sx : xc.toArray.size = 30 := by rw [<- hxc]; rfl
   have ox : Hid (∀ v ∈ xc.toArray.toList, v.oneCell' = true) := hid (by rw [<- hxc]; exact ox.out)
   rw [hxc] at hc1
   replace sx := hid sx
   obtain ⟨a1, n1, c1, a2, n2, c2, a3, n3, c3, a4, n4, c4, b1, b2, b3, b4, kc⟩ : ∃ a1 n1 c1 a2 n2 c2 a3 n3 c3 a4 n4 c4 b1 b2 b3 b4, Hid (∀ W b, Blk W b xc.toArray 55 -> W.cell? ⟨b, 23, none⟩ = some (.slice a1 n1 c1) /\ W.cell? ⟨b, 24, none⟩ = some (.slice a2 n2 c2) /\ W.cell? ⟨b, 25, none⟩ = some (.slice a3 n3 c3) /\ W.cell? ⟨b, 29, none⟩ = some (.slice a4 n4 c4)
     /\ W.cell? ⟨b, 26, none⟩ = some (.string b1) /\ W.cell? ⟨b, 7, none⟩ = some (.string b2) /\ W.cell? ⟨b, 6, none⟩ = some (.string b3) /\ W.cell? ⟨b, 9, none⟩ = some (.string b4)) :=
    ⟨_, _, _, _, _, _, _, _, _, _, _, _, _, _, _, _, hid fun W b hb => by simp only [hb.cell, <- hxc]; exact ⟨rfl, rfl, rfl, rfl, rfl, rfl, rfl, rfl⟩⟩
   have hi := hI.out.size
   go_upto_region 6 with (first
    | (refine wLm 55 rfl rfl hc1 Tryz.underlying55 ?_ rfl rfl (by rw [<- hxc]; kernel_rfl))
    | (refine wS 55 30 rfl _ _ _ rfl rfl (Blk.new _ _ _) sx.out rfl ox.out ?_; intro w5 hw5 hr5))
   have hb5 := hid ((hI.out.alloc hi _).trans (hr5.below (n₀ := W0.heap.size) (by simp; omega) (by simp; omega)))
   have hF5 := hid (hb0.out.trans (hb5.out.mono hb0.out.size))
   obtain ⟨u1, u2, u3, u4, u5, u6, u7, u8⟩ := kc.out _ _ hw5
   clear hw5 hr5 hc1;go_wp2
   all_goals first
    | (go_ret; exact ⟨_, rfl, hF5.out⟩)
    | (go_roundw
       ·exact ⟨k + 1, _, by go_num, rfl, by omega, hb5⟩
       ·simp [intOf]; omega)
  ·obtain rfl : k = n := by omega
   go_wp2
   all_goals (go_ret; exact ⟨_, rfl, hF.out⟩)
end
section
attribute [local go_sem] Oper.semAt_some
def kX : TnC := ⟨zTn 5, h3Z, hdZ⟩
def kS (g : Nat) : ScC := ⟨⟨1, 1, 1, 1, 1, 0, []⟩, 2, ⟨some ⟨g, 0, none⟩, 1, 1⟩, [kX]⟩
def kL : List UInt8 := [0, 1, 0, 1, 0, 1, 0, 1, 0, 1, 0, 0, 0, 2, 0, 0, 5, 0, 0]
theorem kS_in {w : World} {g : Nat} (h : Blk w g kX.cells.toArray 55) : (kS g).In w :=
 ⟨⟨rfl, Nat.le_refl _, by show 1 <= maxLen; decide, fun i x hx => by
   cases i with
   | zero =>
    have hx' : kX = x := by simpa [kS] using hx
    subst hx';refine ⟨g, 0, rfl, h.lt, fun j v hj => ?_⟩
    rw [h.cell]
    simp only [Nat.zero_mul, Nat.zero_add]
    rw [<- Array.getElem?_toList]
    exact hj
   | succ i => simp [kS] at hx⟩, fun x hx => by
   have hx' : x = kX := by simpa [kS] using hx
   subst hx';exact ⟨⟨LsAt.nil w, LsAt.nil w, LsAt.nil w⟩, LsAt.nil w⟩⟩
theorem kS_cf : cfOK ⟨1, 1, 1, 1, 1, 0, []⟩ := by unfold cfOK; decide
theorem new_ok (c : CfV) : NewOK c := fun W hT => brk_New c W hT
theorem kS_new : NewOK ⟨1, 1, 1, 1, 1, 0, []⟩ := new_ok _
theorem kX_kind : KindDo kX := fun c v hv => by
 have e : v = emptyV := by
  have : kindG c kX.t.kind = some emptyV := rfl
  rw [this] at hv
  cases hv
  rfl
 subst e;refine ⟨_, _, _, _, _, _, _, _, rfl, enters_of Tryz.func45 (by kernel_rfl) rfl, enters_of Tryz.func49 (by kernel_rfl) rfl, fun W hi hb => ?_, fun W => ?_⟩
 ·refine (sc_may1 kX.t kX.h kX.hp W).mono fun e w' ⟨he, hb⟩ => ⟨true, he.trans rfl, ?_, hb⟩
  simp [mayT, kX, zTn]
 ·refine (sc_has5 kX.t kX.h kX.hp W).mono fun e w' ⟨he, hb⟩ => ⟨⟨zTn 0, h3Z, hdZ⟩, he.trans rfl, ?_, fun W' h => ⟨⟨LsAt.nil W', LsAt.nil W', LsAt.nil W'⟩, LsAt.nil W'⟩, hb⟩
  rfl
theorem kX_write (w : World) : WriteDo pkC w kX := fun c v hv => by
 have e : v = emptyV := by
  have : kindG c kX.t.kind = some emptyV := rfl
  rw [this] at hv
  cases hv
  rfl
 subst e;refine ⟨_, _, _, _, _, _, _, _, rfl, enters_of Tryz.func47 (by kernel_rfl) rfl, fun W F p l hb hW hl hF => ?_⟩
 refine (sc_write3 _ _ W).mono fun e w' ⟨he, hb⟩ => ⟨F, Stp.below hb, .inl ⟨?_, he, ?_⟩⟩
 ·have : partB pkC kX.t = [] := rfl
  rw [this]
  unfold fits
  rw [decide_eq_true_eq]
  simpa using hl
 ·have : partB pkC kX.t = [] := rfl
  rw [this, List.append_nil]
  exact hW.below hb
theorem kS_raw (g : Nat) : rawS pkC (kS g).sc = kL := by kernel_rfl
theorem kS_right (g : Nat) : rightS (kS g).sc := ⟨kS_cf, by show (2 : Int) <= 2 /\ (2 : Int) <= 4096; decide, by show 1 <= 2000; decide, fun t ht => by
 have : t = kX.t := by simpa [kS, ScC.sc] using ht
 subst this;exact ⟨by simp [mayT, kX, zTn], rfl⟩⟩
theorem kL_18 : rScript pkC false (kL.take 18) = none := by kernel_rfl
theorem k_nil : rScript pkC false [] = none := by kernel_rfl
theorem known28 (w : World) (hT : TzAt w) : Calls Tryz.prog 7 #[] w fun e w' => e = .returned (.bool true) /\ Below w.heap.size w w' := by
 obtain ⟨w1, hW1⟩ : ∃ w1, (w.alloc (.cells #[.int .i64 5, .int .i64 0, .int .i64 0, .bool false, .bool false, .int .i64 0, .string ⟨#[]⟩, .string ⟨#[]⟩, .int .i64 0, .string ⟨#[]⟩, .bool false, .int .i64 0, .bool false, .string ⟨#[]⟩, .string ⟨#[]⟩, .int .i64 0, .bool false, .bool false, .bool false, .string ⟨#[]⟩, .string ⟨#[]⟩, .bool false, .int .i64 0, .slice none 0 0, .slice none 0 0, .slice none 0 0, .string ⟨#[]⟩, .int .i64 0, .int .i64 0, .slice none 0 0] 55)).alloc (.cells #[.int .i64 1, .int .i64 1, .int .i64 1, .int .i64 1, .int .i64 1, .int .i64 0, .string ⟨#[]⟩, .int .i64 2, .slice (some ⟨w.heap.size, 0, none⟩) 1 1] 30) = w1 := ⟨_, rfl⟩
 have hb1 : Hid (Below w.heap.size w w1) := hid (by rw [<- hW1]; exact ((Below.refl _ _).alloc (Nat.le_refl _) _).alloc (by simp) _)
 have g1 : Blk w1 w.heap.size kX.cells.toArray 55 := by rw [<- hW1]; exact (Blk.new w kX.cells.toArray 55).alloc _
 have hw1 : Blk w1 (w.heap.size + 1) (kS w.heap.size).cells.toArray 30 := by
  rw [<- hW1]
  have h := Blk.new (w.alloc (.cells kX.cells.toArray 55)) (kS w.heap.size).cells.toArray 30
  rw [World.size_alloc] at h
  exact h
 obtain ⟨sv, hsv⟩ : ∃ sv, (kS w.heap.size).cells.toArray = sv := ⟨_, rfl⟩
 rw [hsv] at hw1
 have hss : Hid (sv.size = 9) := hid (by rw [<- hsv]; rfl)
 replace hsv := hid hsv;replace hT := hid hT
 have CR := hid (sc_Raw pkC (kS w.heap.size) w1 (kS_in g1) (hT.out.below hb1.out) kS_new (fun x hx => by
  have hx' : x = kX := by simpa [kS] using hx
  subst hx';exact kX_kind) (fun _ x hx => by
  have hx' : x = kX := by simpa [kS] using hx
  subst hx';exact kX_write w1))
 rw [hsv.out] at CR
 have is : (Tryz.prog.info? 30).map (·.size) = some sv.size := by rw [hss.out]; exact (by kernel_rfl : (Tryz.prog.info? 30).map (·.size) = some 9)
 clear g1;go_enter Tryz.func7, Tryz.ntmps7
 go_wp2_with (refine wL 30 rfl rfl hw1 Tryz.underlying30 ?_ rfl rfl is)
 refine CR.out.mono ?_
 rintro e w2 ⟨hb2, ho⟩
 have HB2 := hid (hb1.out.trans (hb2.mono hb1.out.size))
 obtain ⟨v, rfl, hv⟩ : ∃ v, e = .returned (.tuple #[v, .int .i64 0]) /\ w2.ownsRow w1.heap.size 5 1 v 19 (bs kL) := by
  rcases ho with ⟨-, -, v, h1, h2⟩ | ⟨-, h, -⟩ | ⟨h, -⟩
  ·rw [kS_raw] at h2
   exact ⟨v, h1, h2⟩
  ·rw [kS_raw] at h
   exact absurd (by decide) h
  ·exact absurd (kS_right _) h
 obtain ⟨av, cv, rfl, hrow⟩ := RowAt.of_own hv
 have hstr := run_str hrow
 have hcv := hrow.le
 have hr18 := hrow.take 18 (by decide)
 rw [show (bs kL).take 18 = bs (kL.take 18) from by unfold bs; rw [List.map_take]] at hr18
 have CP := hid (fun (W : World) (hb : Below w2.heap.size w2 W) => sc_Parse pkC av 18 cv (kL.take 18) W (hr18.below hb) (by decide) (hT.out.below (HB2.out.trans (hb.mono HB2.out.size))) (fun s hs => by rw [kL_18] at hs; cases hs) (fun s hs => by rw [kL_18] at hs; cases hs) (fun h => absurd h (by decide)))
 have CP0 := hid (fun (W : World) (hb : Below w2.heap.size w2 W) => sc_Parse pkC none 0 0 [] W (RowAt.empty W) (by decide) (hT.out.below (HB2.out.trans (hb.mono HB2.out.size))) (fun s hs => by rw [k_nil] at hs; cases hs) (fun s hs => by rw [k_nil] at hs; cases hs) (fun h => absurd h (by decide)))
 have hP : Hid (∀ W e W', ParA pkC (kL.take 18) W e W' -> e = .returned (.tuple #[.agg zSc.cells.toArray, .int .i64 390]) /\ Below W.heap.size W W') := hid fun W e W' ⟨hb, ho⟩ => by
  rcases ho with ⟨h, -⟩ | ⟨-, -, h⟩ | ⟨-, s, h, -⟩
  ·exact absurd h (by decide)
  ·exact ⟨h, hb⟩
  ·rw [kL_18] at h; cases h
 have hP0 : Hid (∀ W e W', ParA pkC [] W e W' -> e = .returned (.tuple #[.agg zSc.cells.toArray, .int .i64 390]) /\ Below W.heap.size W W') := hid fun W e W' ⟨hb, ho⟩ => by
  rcases ho with ⟨h, -⟩ | ⟨-, -, h⟩ | ⟨-, s, h, -⟩
  ·exact absurd h (by decide)
  ·exact ⟨h, hb⟩
  ·rw [k_nil] at h; cases h
 obtain ⟨zc, hzc⟩ : ∃ zc, zSc.cells.toArray = zc := ⟨_, rfl⟩
 rw [hzc] at hP hP0
 have hzs : Hid (zc.size = 9) := hid (by rw [<- hzc]; rfl)
 have hzo : Hid (∀ u ∈ zc.toList, u.oneCell' = true) := hid (by rw [<- hzc]; simp [zSc, ScC.cells, Value.oneCell'])
 replace hzc := hid hzc;have hk : kL.toArray = #[0, 1, 0, 1, 0, 1, 0, 1, 0, 1, 0, 0, 0, 2, 0, 0, 5, 0, 0] := rfl
 rw [hk] at hstr
 clear hb2 ho hv hrow hr18 hk;go_wp2_with fail
 refine (CP.out w2 (Below.refl _ _)).mono ?_
 rintro e w3 hp3
 obtain ⟨rfl, hb3⟩ := hP.out _ _ _ hp3
 have HB3 := hid hb3;have hs3 := hid hb3.size;clear hp3 hb3;go_upto_region 6 with (refine wS 30 9 rfl _ _ zc rfl rfl (Blk.new _ _ _) hzs.out rfl hzo.out ?_; intro w4 hw4 hr4)
 have hb4 := hid ((HB3.out.alloc hs3.out _).trans (hr4.below (n₀ := w2.heap.size) (by have := hs3.out; simp; omega) (by have := hs3.out; simp; omega)))
 clear hw4 hr4;go_wp2_with fail
 refine (CP0.out w4 hb4.out).mono ?_
 rintro e w5 hp5
 obtain ⟨rfl, hb5⟩ := hP0.out _ _ _ hp5
 have HB5 := hid (hb4.out.trans (hb5.mono hb4.out.size))
 clear hp5 hb5;go_wp2_with (refine wS 30 9 rfl _ _ zc rfl rfl (Blk.new _ _ _) hzs.out rfl hzo.out ?_; intro w6 hw6 hr6)
 have hb6 := (HB5.out.alloc HB5.out.size _).trans (hr6.below (n₀ := w2.heap.size) (by have := HB5.out.size; simp; omega) (by have := HB5.out.size; simp; omega))
 go_ret
 exact ⟨rfl, HB2.out.trans (hb6.mono HB2.out.size)⟩
end
section
theorem connB_iff (z : Int) : connB z = true ↔ 0 <= z /\ z <= 65535 := by simp [connB]
theorem kindDo_of (x : TnC) (h2 : x.t.kind = 2 -> CheckOK x.t.pk x.h) : KindDo x := fun c v hv => by
 obtain ⟨k, hk⟩ : ∃ k, x.t.kind = k := ⟨_, rfl⟩
 rw [hk] at hv h2
 have hk8 : 1 <= k /\ k <= 8 := by
  refine Classical.byContradiction fun h => ?_
  unfold kindG at hv
  rw [if_neg (by omega), if_neg (by omega), if_neg (by omega), if_neg (by omega), if_neg (by omega), if_neg (by omega), if_neg (by omega), if_neg (by omega)] at hv
  cases hv
 have : k = 1 \/ k = 2 \/ k = 3 \/ k = 4 \/ k = 5 \/ k = 6 \/ k = 7 \/ k = 8 := by omega
 rcases this with rfl | rfl | rfl | rfl | rfl | rfl | rfl | rfl
 ·obtain rfl : bareV = v := Option.some.inj hv
  refine ⟨_, _, _, _, _, _, _, _, rfl, enters_of Tryz.func45 (by kernel_rfl) rfl, enters_of Tryz.func46 (by kernel_rfl) rfl, fun W hi hb => ?_, fun W => ?_⟩
  ·refine (sc_may1 x.t x.h x.hp W).mono fun e w' h => ⟨_, h.1, by (simp [mayT, hk]), h.2⟩
  ·refine (sc_has2 x.t x.h x.hp W).mono fun e w' ⟨he, hb⟩ => ⟨⟨_, _, _⟩, he, ?_, fun W' h => ?_, hb⟩
   ·unfold aloneT
    simp [hk, zTn]
   ·exact ⟨⟨LsAt.nil W', LsAt.nil W', LsAt.nil W'⟩, LsAt.nil W'⟩
 ·obtain rfl : sayV c = v := Option.some.inj hv
  refine ⟨_, _, _, _, _, _, _, _, rfl, enters_of Tryz.func50 (by kernel_rfl) rfl, enters_of Tryz.func52 (by kernel_rfl) rfl, fun W hi hb => ?_, fun W => ?_⟩
  ·refine (sc_may6 x c W hb hi (h2 rfl)).mono fun e w' ⟨b, he, hi, hbb⟩ => ⟨b, he, hi.trans (by (simp [mayT, hk, connB_iff])), hbb⟩
  ·refine (sc_has7 x.t x.h x.hp W).mono fun e w' ⟨he, hb⟩ => ⟨⟨_, _, _⟩, he, ?_, fun W' h => ?_, hb⟩
   ·unfold aloneT
    simp [hk, zTn]
   ·exact ⟨⟨h.pk.lw, h.pk.lc, h.pk.lf⟩, LsAt.nil W'⟩
 ·obtain rfl : bytesV c = v := Option.some.inj hv
  refine ⟨_, _, _, _, _, _, _, _, rfl, enters_of Tryz.func58 (by kernel_rfl) rfl, enters_of Tryz.func59 (by kernel_rfl) rfl, fun W hi hb => ?_, fun W => ?_⟩
  ·refine (sc_may10 x c W hb).mono fun e w' h => Tells.of (by (simp [mayT, hk, connB])) h
  ·refine (sc_has11 x.t x.h x.hp W).mono fun e w' ⟨he, hb⟩ => ⟨⟨_, _, _⟩, he, ?_, fun W' h => ?_, hb⟩
   ·unfold aloneT
    simp [hk, zTn]
   ·exact ⟨⟨LsAt.nil W', LsAt.nil W', LsAt.nil W'⟩, LsAt.nil W'⟩
 ·obtain rfl : bareV = v := Option.some.inj hv
  refine ⟨_, _, _, _, _, _, _, _, rfl, enters_of Tryz.func45 (by kernel_rfl) rfl, enters_of Tryz.func46 (by kernel_rfl) rfl, fun W hi hb => ?_, fun W => ?_⟩
  ·refine (sc_may1 x.t x.h x.hp W).mono fun e w' h => ⟨_, h.1, by (simp [mayT, hk]), h.2⟩
  ·refine (sc_has2 x.t x.h x.hp W).mono fun e w' ⟨he, hb⟩ => ⟨⟨_, _, _⟩, he, ?_, fun W' h => ?_, hb⟩
   ·unfold aloneT
    simp [hk, zTn]
   ·exact ⟨⟨LsAt.nil W', LsAt.nil W', LsAt.nil W'⟩, LsAt.nil W'⟩
 ·obtain rfl : emptyV = v := Option.some.inj hv
  refine ⟨_, _, _, _, _, _, _, _, rfl, enters_of Tryz.func45 (by kernel_rfl) rfl, enters_of Tryz.func49 (by kernel_rfl) rfl, fun W hi hb => ?_, fun W => ?_⟩
  ·refine (sc_may1 x.t x.h x.hp W).mono fun e w' h => ⟨_, h.1, by (simp [mayT, hk]), h.2⟩
  ·refine (sc_has5 x.t x.h x.hp W).mono fun e w' ⟨he, hb⟩ => ⟨⟨_, _, _⟩, he, ?_, fun W' h => ?_, hb⟩
   ·unfold aloneT
    simp [hk, zTn]
   ·exact ⟨⟨LsAt.nil W', LsAt.nil W', LsAt.nil W'⟩, LsAt.nil W'⟩
 ·obtain rfl : emptyV = v := Option.some.inj hv
  refine ⟨_, _, _, _, _, _, _, _, rfl, enters_of Tryz.func45 (by kernel_rfl) rfl, enters_of Tryz.func49 (by kernel_rfl) rfl, fun W hi hb => ?_, fun W => ?_⟩
  ·refine (sc_may1 x.t x.h x.hp W).mono fun e w' h => ⟨_, h.1, by (simp [mayT, hk]), h.2⟩
  ·refine (sc_has5 x.t x.h x.hp W).mono fun e w' ⟨he, hb⟩ => ⟨⟨_, _, _⟩, he, ?_, fun W' h => ?_, hb⟩
   ·unfold aloneT
    simp [hk, zTn]
   ·exact ⟨⟨LsAt.nil W', LsAt.nil W', LsAt.nil W'⟩, LsAt.nil W'⟩
 ·obtain rfl : armV = v := Option.some.inj hv
  refine ⟨_, _, _, _, _, _, _, _, rfl, enters_of Tryz.func62 (by kernel_rfl) rfl, enters_of Tryz.func63 (by kernel_rfl) rfl, fun W hi hb => ?_, fun W => ?_⟩
  ·refine (sc_may14 x W).mono fun e w' h => Tells.of (by (simp [mayT, hk, and_assoc])) h
  ·refine (sc_has15 x.t x.h x.hp W).mono fun e w' ⟨he, hb⟩ => ⟨⟨_, _, _⟩, he, ?_, fun W' h => ?_, hb⟩
   ·unfold aloneT
    simp [hk, zTn]
   ·exact ⟨⟨LsAt.nil W', LsAt.nil W', LsAt.nil W'⟩, LsAt.nil W'⟩
 ·obtain rfl : crashV = v := Option.some.inj hv
  refine ⟨_, _, _, _, _, _, _, _, rfl, enters_of Tryz.func67 (by kernel_rfl) rfl, enters_of Tryz.func70 (by kernel_rfl) rfl, fun W hi hb => ?_, fun W => ?_⟩
  ·refine (sc_may18 x W hi.p).mono fun e w' h => Tells.of (by (simp [mayT, hk])) h
  ·refine (sc_has19 x.t x.h x.hp W).mono fun e w' ⟨he, hb⟩ => ⟨⟨_, _, _⟩, he, ?_, fun W' h => ?_, hb⟩
   ·unfold aloneT
    simp [hk, zTn]
   ·exact ⟨⟨LsAt.nil W', LsAt.nil W', LsAt.nil W'⟩, h.p⟩
end
section
attribute [local go_sem] Oper.semAt_some
def RawPkOK (C : PkCode) (p : Pk) (h : H3) : Prop := ∀ W, p.In W h -> rightP p -> Calls Tryz.prog 54 #[.agg (p.cells h).toArray] W fun e w' => ∃ v, e = .returned (.tuple #[v, .int .i64 0]) /\ w'.ownsRow W.heap.size 5 1 v (C.raw p).length (bs (C.raw p)) /\ Below W.heap.size W w'
theorem puts_nil {F : List Nat} {p : Nat} {l : List UInt8} {W : World} {e : Ending} {w' : World} (hW : Wr W F p l) (hl : l.length <= 65536) (h : e = .returned (.tuple #[]) /\ Below W.heap.size W w') : Puts F p l [] W e w' :=
 ⟨F, Stp.below h.2, .inl ⟨by unfold fits; rw [decide_eq_true_eq]; simpa using hl, h.1, by rw [List.append_nil]; exact hW.below h.2⟩⟩
theorem sc_write8 (C : PkCode) {w : World} {F : List Nat} {p : Nat} {l : List UInt8} (h : Wr w F p l) (hl : l.length <= 65536) (x : TnC) (hin : x.t.In w x.h x.hp) (hr : rightP x.t.pk) (hP : RawPkOK C x.t.pk x.h) :
  Calls Tryz.prog 53 #[.agg #[.pointer (some ⟨p, 0, none⟩)], .agg x.cells.toArray] w (Puts F p l (txtB (C.raw x.t.pk)) w) := by
 obtain ⟨cs, hcs⟩ : ∃ cs, x.cells.toArray = cs := ⟨_, rfl⟩
 obtain ⟨W0, hW0⟩ : ∃ W0, (w.alloc (.cells #[.pointer (some ⟨p, 0, none⟩)] 102)).alloc (.cells cs 55) = W0 := ⟨_, rfl⟩
 have b1 : Blk W0 w.heap.size #[.pointer (some ⟨p, 0, none⟩)] 102 := by rw [<- hW0]; exact (Blk.new _ _ _).alloc _
 have b2 : Blk W0 (w.heap.size + 1) cs 55 := by
  rw [<- hW0]
  have := Blk.new (w.alloc (.cells #[.pointer (some ⟨p, 0, none⟩)] 102)) cs 55
  simpa using this
 have B0 : Below w.heap.size w W0 := by rw [<- hW0]; exact ((Below.refl _ _).alloc (Nat.le_refl _) _).alloc (by simp) _
 have kr : W0.rangeAt (w.heap.size + 1) 2 (x.t.pk.cells x.h) := by
  have h1 := b2
  rw [<- hcs] at h1
  exact h1.mid [.int .i64 x.t.kind, .int .i64 x.t.conn] (x.t.pk.cells x.h) [.string ⟨x.t.bytes.toArray⟩, .int .i64 x.t.arm, .int .i64 x.t.n, .slice x.hp.a x.hp.n x.hp.c] (Tn.cells_eq x.t x.h x.hp)
 have CP := hid (hP W0 (hin.below B0).pk hr)
 have hlen := hid (C.len _ hr)
 obtain ⟨m, hm⟩ : ∃ m, C.raw x.t.pk = m := ⟨_, rfl⟩
 obtain ⟨pc, hpc⟩ : ∃ pc, x.t.pk.cells x.h = pc := ⟨_, rfl⟩
 have hpl : Hid ((Tryz.prog.info? 52).map (·.size) = some pc.length) := hid (by rw [<- hpc]; exact (by kernel_rfl : (Tryz.prog.info? 52).map (·.size) = some 24))
 rw [hm] at CP hlen ⊢
 rw [hpc] at kr CP
 have S0 := hid (Stp.below (F := F) B0)
 have HW := hid (h.below B0)
 have HB1 := hid b1;rw [hcs]
 clear hcs b2 B0 hm hpc hin hr hP h b1;replace hl := hid hl;go_enter Tryz.func53, Tryz.ntmps53
 go_wp2_with (refine wLm 52 rfl rfl kr Tryz.underlying52 ?_ rfl rfl hpl.out)
 refine CP.out.mono ?_
 rintro e w1 ⟨v, rfl, hv, hb1⟩
 obtain ⟨av, cv, rfl, hrow⟩ := RowAt.of_own hv
 have hstr := run_str hrow
 have bx := HB1.out.below hb1
 have CT := hid (sc_wtext (HW.out.below hb1) hl.out m (by have := hlen.out; omega))
 have S1 := hid (S0.out.trans (Stp.below (F := F) hb1))
 clear hv hrow hb1 kr;go_wp2_with (refine wL 102 rfl rfl bx Tryz.underlying102 ?_)
 refine CT.out.mono ?_
 rintro e w2 ⟨F1, hs1, ⟨⟨_, hf⟩, rfl, hw1⟩ | ⟨hf, rfl⟩⟩
 ·have H := hid (show Puts F p l (txtB m) w (.returned (.tuple #[])) w2 from ⟨F1, S1.out.trans hs1, .inl ⟨hf, rfl, hw1⟩⟩)
  clear hs1 hf hw1;go_wp2_with fail
  go_end0
  exact H.out
 ·refine ⟨rfl, ⟨F1, S1.out.trans hs1, .inr ⟨?_, rfl⟩⟩⟩
  cases hx : fits l (txtB m) with
  | false => rfl
  | true => exact absurd ⟨by have := hlen.out; omega, hx⟩ hf
theorem writeDo_of (C : PkCode) (w0 : World) (x : TnC) (hx : x.t.In w0 x.h x.hp) (hr : rightT x.t) (h2 : x.t.kind = 2 -> RawPkOK C x.t.pk x.h) : WriteDo C w0 x := fun c v hv => by
 have hk8 := rightT_kind hr
 have hm := hr.1
 obtain ⟨k, hk⟩ : ∃ k, x.t.kind = k := ⟨_, rfl⟩
 rw [hk] at hv h2 hk8
 unfold mayT at hm
 rw [hk] at hm
 have hoff : ∀ F : List Nat, (∀ b ∈ F, w0.heap.size <= b) -> x.t.picks ≠ [] -> ∀ y, x.hp.a = some y -> y.block ∉ F := fun F hF hne y hy hm' => by
  obtain ⟨z, hz⟩ : ∃ z, x.t.picks[0]? = some z := ⟨_, List.getElem?_eq_getElem (List.length_pos_iff.2 hne)⟩
  obtain ⟨g, off, e, hg, -⟩ := hx.p.at' 0 z hz
  rw [hy] at e
  cases e
  have := hF _ hm'
  dsimp only at this
  omega
 have : k = 1 \/ k = 2 \/ k = 3 \/ k = 4 \/ k = 5 \/ k = 6 \/ k = 7 \/ k = 8 := by omega
 rcases this with rfl | rfl | rfl | rfl | rfl | rfl | rfl | rfl
 ·obtain rfl : bareV = v := Option.some.inj hv
  refine ⟨_, _, _, _, _, _, _, _, rfl, enters_of Tryz.func47 (by kernel_rfl) rfl, fun W F p l hB hW hl hF => ?_⟩
  have hpt : partB C x.t = [] := by
   unfold partB
   simp [hk]
  rw [hpt]
  exact (sc_write3 _ _ W).mono fun e w' h => puts_nil hW hl h
 ·obtain rfl : sayV c = v := Option.some.inj hv
  have hmp : rightP x.t.pk := by simp at hm; exact hm.2
  refine ⟨_, _, _, _, _, _, _, _, rfl, enters_of Tryz.func53 (by kernel_rfl) rfl, fun W F p l hB hW hl hF => ?_⟩
  have hpt : partB C x.t = txtB (C.raw x.t.pk) := by
   unfold partB
   simp [hk]
  rw [hpt]
  exact sc_write8 C hW hl x (hx.below hB) hmp (h2 rfl)
 ·obtain rfl : bytesV c = v := Option.some.inj hv
  refine ⟨_, _, _, _, _, _, _, _, rfl, enters_of Tryz.func60 (by kernel_rfl) rfl, fun W F p l hB hW hl hF => ?_⟩
  have hpt : partB C x.t = txtB x.t.bytes := by
   unfold partB
   simp [hk]
  rw [hpt]
  exact sc_write12 hW hl x.t x.h x.hp (by (simp at hm; omega))
 ·obtain rfl : bareV = v := Option.some.inj hv
  refine ⟨_, _, _, _, _, _, _, _, rfl, enters_of Tryz.func47 (by kernel_rfl) rfl, fun W F p l hB hW hl hF => ?_⟩
  have hpt : partB C x.t = [] := by
   unfold partB
   simp [hk]
  rw [hpt]
  exact (sc_write3 _ _ W).mono fun e w' h => puts_nil hW hl h
 ·obtain rfl : emptyV = v := Option.some.inj hv
  refine ⟨_, _, _, _, _, _, _, _, rfl, enters_of Tryz.func47 (by kernel_rfl) rfl, fun W F p l hB hW hl hF => ?_⟩
  have hpt : partB C x.t = [] := by
   unfold partB
   simp [hk]
  rw [hpt]
  exact (sc_write3 _ _ W).mono fun e w' h => puts_nil hW hl h
 ·obtain rfl : emptyV = v := Option.some.inj hv
  refine ⟨_, _, _, _, _, _, _, _, rfl, enters_of Tryz.func47 (by kernel_rfl) rfl, fun W F p l hB hW hl hF => ?_⟩
  have hpt : partB C x.t = [] := by
   unfold partB
   simp [hk]
  rw [hpt]
  exact (sc_write3 _ _ W).mono fun e w' h => puts_nil hW hl h
 ·obtain rfl : armV = v := Option.some.inj hv
  refine ⟨_, _, _, _, _, _, _, _, rfl, enters_of Tryz.func64 (by kernel_rfl) rfl, fun W F p l hB hW hl hF => ?_⟩
  have hpt : partB C x.t = numB 1 x.t.arm.toNat ++ numB 2 (x.t.n + 1).toNat := by
   unfold partB
   simp [hk]
  rw [hpt]
  exact sc_write16 hW hl x.t x.h x.hp (by (simp at hm; omega)) (by (simp at hm; omega))
 ·obtain rfl : crashV = v := Option.some.inj hv
  refine ⟨_, _, _, _, _, _, _, _, rfl, enters_of Tryz.func71 (by kernel_rfl) rfl, fun W F p l hB hW hl hF => ?_⟩
  have hpt : partB C x.t = numB 1 x.t.picks.length ++ x.t.picks.flatMap (fun z => numB 1 z.toNat) := by
   unfold partB
   simp [hk]
  rw [hpt]
  exact sc_write20 hW hl x.t x.h x.hp (hx.p.below hB) (fun hne y hy hm' => hoff F hF hne y hy hm') (by (simp at hm; omega)) (by (simp at hm; exact hm.2))
end
section
theorem kind_pk (x : TnC) (h : x.t.kind = 2 -> PkS x.t.pk) : KindDo x := kindDo_of x fun h2 => pk_Check x.t.pk x.h (h h2) ⟨(h h2).wants, (h h2).filters⟩
theorem write_pk (x : TnC) (w : World) (hx : x.t.In w x.h x.hp) (hr : rightT x.t) : WriteDo pkC w x := writeDo_of pkC w x hx hr fun h2 W hin hrp => pk_Raw x.t.pk x.h (rightP_small hrp) ⟨(rightP_small hrp).wants, (rightP_small hrp).filters⟩ W hin hrp
theorem read_pk (k : Int) : ReadDo pkC k := readDo_of pkC parsePk_ok k
theorem sc_RawPk (s : ScC) (w : World) (hs : s.In w) (hT : TzAt w) (hp : ∀ x ∈ s.ts, x.t.kind = 2 -> PkS x.t.pk) : Calls Tryz.prog 11 #[.agg s.cells.toArray] w (RawA pkC s.sc w) :=
 sc_Raw pkC s w hs hT (new_ok s.cf) (fun x hx => kind_pk x (hp x hx)) (fun hr x hx => write_pk x w (hs.each x hx) (hr.2.2.2 x.t (List.mem_map_of_mem hx)))
theorem sc_ParsePk (a : Option Addr) (n c : Nat) (l : List UInt8) (w : World) (hrow : RowAt w a n c (bs l)) (hn : n <= 70368744177664) (hT : TzAt w) : Calls Tryz.prog 8 #[.slice a n c] w (ParA pkC l w) :=
 sc_Parse pkC a n c l w hrow hn hT (fun s _ => new_ok s.cf) (fun s hs x hx => kind_pk x fun h2 => rightP_small (rScript_pk hs x.t hx h2)) (fun _ k => read_pk k)
end
section
attribute [local go_sem] Oper.semAt_some
structure YesP (w : World) (e : Ending) (w' : World) : Prop where
 out : e = .returned (.bool true) /\ Below w.heap.size w w'
end
end Go.Proofs.YtkghejaimhoboaaGreatDoor
