/- Parts of the proof of ScriptCuts: contracts of functions that it reaches, and plain lemmas. No condition of their own. -/
import Derived.Test.YtkghejaimhoboaaGreatDoorPk49
import Derived.Test.YtkghejaimhoboaaGreatDoorPk24
import Derived.Test.YtkghejaimhoboaaGreatDoorPk12
import Derived.Test.YtkghejaimhoboaaGreatDoorPk19
import Derived.ProofKit
import Derived.OpenShut
import Derived.Deep.Slices
set_option linter.unusedSimpArgs false
set_option linter.unusedVariables false
set_option maxRecDepth 100000
set_option maxHeartbeats 8000000
namespace Go.Proofs.YtkghejaimhoboaaGreatDoor
open Go.RowKit Go.Shelf
section
attribute [local go_sem] Oper.semAt_some
def ScC.cut (s : ScC) (k : Nat) : ScC := ⟨s.cf, s.pages, ⟨s.ht.a, k, s.ht.c⟩, s.ts.take k⟩
theorem cut_right {s : ScC} (h : rightS s.sc) (k : Nat) : rightS (s.cut k).sc := by
 obtain ⟨h1, h2, h3, h4⟩ := h
 refine ⟨h1, h2, ?_, fun t ht => ?_⟩
 ·have e : (s.cut k).sc.ts.length <= s.sc.ts.length := by simp [ScC.cut, ScC.sc]; omega
  omega
 ·refine h4 t ?_
  have : t ∈ (s.ts.take k).map TnC.t := ht
  rw [List.map_take] at this
  exact List.mem_of_mem_take this
theorem cut_raw (s : ScC) (k : Nat) : ∃ r, rawS pkC s.sc = rawS pkC (s.cut k).sc ++ r := by
 refine ⟨((s.ts.drop k).map TnC.t).flatMap (turnB pkC), ?_⟩
 unfold rawS
 have e1 : (s.cut k).sc.cf = s.sc.cf := rfl
 have e2 : (s.cut k).sc.pages = s.sc.pages := rfl
 have e3 : s.sc.ts = (s.cut k).sc.ts ++ (s.ts.drop k).map TnC.t := by
  show s.ts.map TnC.t = (s.ts.take k).map TnC.t ++ _
  rw [<- List.map_append, List.take_append_drop]
 rw [e1, e2, e3, List.flatMap_append]
 simp [List.append_assoc]
theorem LsAt.take {α : Type} {f : α -> List Value} {size : Nat} {w : World} {a : Option Addr} {n c k : Nat} {xs : List α} (h : LsAt f size w a n c xs) (hk : k <= n) : LsAt f size w a k c (xs.take k) :=
 ⟨by rw [List.length_take, h.len]; omega, by have := h.le; omega, h.max, fun i x hx => h.at' i x (by
  rw [List.getElem?_take] at hx
  split at hx
  ·exact hx
  ·cases hx)⟩
theorem cut_in {s : ScC} {w : World} (h : s.In w) (k : Nat) (hk : k <= s.ht.n) : (s.cut k).In w :=
 ⟨h.t.take hk, fun x hx => h.each x (List.mem_of_mem_take hx)⟩
theorem walk_ScriptCuts' (s : ScC) (n : Int) (w : World) (hs : s.In w) (hT : TzAt w) (hp : ∀ x ∈ s.ts, PkS x.t.pk) : Calls Tryz.prog 4 #[.agg s.cells.toArray, .int .i64 n] w (YesP w) := by
 obtain ⟨sv, hsv⟩ : ∃ sv, s.cells.toArray = sv := ⟨_, rfl⟩
 obtain ⟨W0, hW0⟩ : ∃ W0, w.alloc (.cells sv 30) = W0 := ⟨_, rfl⟩
 have hb0 : Below w.heap.size w W0 := by rw [<- hW0]; exact (Below.refl _ _).alloc (Nat.le_refl _) _
 have hB : Blk W0 w.heap.size sv 30 := by rw [<- hW0]; exact Blk.new _ _ _
 have is : (Tryz.prog.info? 30).map (·.size) = some sv.size := by rw [<- hsv]; exact (by kernel_rfl : (Tryz.prog.info? 30).map (·.size) = some 9)
 have HS := hid hs;replace hT := hid hT;have KB : Hid (∀ W, Below W0.heap.size W0 W -> Below w.heap.size w W /\ Blk W w.heap.size sv 30) := hid fun W h => ⟨hb0.trans (h.mono hb0.size), hB.below h⟩
 have kc : Hid (∀ W, Blk W w.heap.size sv 30 -> ∀ i, W.cell? ⟨w.heap.size, i, none⟩ = s.cells[i]?) := hid fun W hb i => by rw [hb.cell, <- hsv]; simp
 rw [hsv]
 have F1 := hid (law28_few s 100 W0 (hs.below hb0))
 rw [hsv] at F1
 have hx := (KB.out W0 (Below.refl _ _)).2
 replace hsv := hid hsv;have hp := hid hp;have hln : Hid (s.ts.length = s.ht.n) := hid hs.t.len
 clear hB hs hb0;go_enter Tryz.func4, Tryz.ntmps4
 go_wp2_with (refine wL 30 rfl rfl hx Tryz.underlying30 ?_ rfl rfl is)
 refine F1.out.mono ?_
 rintro e w1 ⟨b1, rfl, hb1⟩
 have HW1 := hid hb1;have HB := hid (KB.out w1 hb1).1
 have k2 : w1.cell? ⟨w.heap.size, 8, none⟩ = some (.slice s.ht.a s.ht.n s.ht.c) := kc.out _ (KB.out w1 hb1).2 8
 clear hb1;cases b1 with
 | false =>
  go_wp2_with (go_at_call 7; refine (known28 _ (hT.out.below HB.out)).mono ?_; rintro e wk ⟨rfl, hbk⟩)
  go_ret
  exact ⟨rfl, HB.out.trans (hbk.mono HB.out.size)⟩
 | true =>
  have kn : Hid (TzAt w1) := hid (hT.out.below HB.out)
  by_cases n0 : n < 0
  ·have e0 : decide (n < 0) = true := decide_eq_true n0
   go_wp2_with (go_at_call 7; refine (known28 _ kn.out).mono ?_; rintro e wk ⟨rfl, hbk⟩)
   go_ret
   exact ⟨rfl, HB.out.trans (hbk.mono HB.out.size)⟩
  have e0 : decide (n < 0) = false := decide_eq_false n0
  by_cases n1 : (s.ht.n : Int) < n
  ·have e1 : decide ((s.ht.n : Int) < n) = true := decide_eq_true n1
   go_wp2_with (go_at_call 7; refine (known28 _ kn.out).mono ?_; rintro e wk ⟨rfl, hbk⟩)
   go_ret
   exact ⟨rfl, HB.out.trans (hbk.mono HB.out.size)⟩
  have e1 : decide ((s.ht.n : Int) < n) = false := decide_eq_false n1
  obtain ⟨k, hk⟩ := Int.eq_ofNat_of_zero_le (show 0 <= n by omega)
  subst hk;have hkn : k <= s.ht.n := by omega
  have HSc := hid (fun W (hb : Below w.heap.size w W) => cut_in (HS.out.below hb) k hkn)
  have CR1 := hid (sc_RawPk s w1 (HS.out.below HB.out) kn.out (fun x hx _ => hp.out x hx))
  rw [hsv.out] at CR1
  have hx1 := (KB.out w1 HW1.out).2
  go_wp2_with (refine wL 30 rfl rfl hx1 Tryz.underlying30 ?_ rfl rfl is)
  refine CR1.out.mono ?_
  rintro e w2 ⟨hb2, hout⟩
  obtain ⟨v, z, rfl, hz⟩ : ∃ v z, e = .returned (.tuple #[v, .int .i64 z]) /\ ((z = 0 /\ rightS s.sc /\ (rawS pkC s.sc).length <= 65536 /\ w2.ownsRow w1.heap.size 5 1 v (rawS pkC s.sc).length (bs (rawS pkC s.sc))) \/ z ≠ 0) := by
   rcases hout with ⟨h1, h2, v, rfl, h3⟩ | ⟨h1, h2, rfl⟩ | ⟨h1, rfl⟩
   ·exact ⟨v, 0, rfl, .inl ⟨rfl, h1, h2, h3⟩⟩
   ·exact ⟨_, 3, rfl, .inr (by decide)⟩
   ·exact ⟨_, 2, rfl, .inr (by decide)⟩
  have hz := hid hz;have B2 := hid (HB.out.trans (hb2.mono HB.out.size))
  have X2 := hid ((KB.out w1 HW1.out).2.below hb2)
  clear hb2 hx1 k2 hout;have hkc : (k : Int) <= s.ht.c := by have := HS.out.t.le; omega
  have hkm : s.ht.c <= 9223372036854775807 := by have := HS.out.t.max; unfold maxLen at this; omega
  go_upto_region 4 with fail
  try simp only [PT]
  have XD : Blk w2.drew w.heap.size sv 30 := X2.out
  have BD := B2.out.drew
  refine regionQ [(1000, fun w' => Blk w' w.heap.size sv 30)] (by kernel_rfl) ⟨XD, trivial⟩ fun KQ hKQ => ?_
  try simp only [PT]
  obtain ⟨WD, hWD⟩ : ∃ W, w2.drew = W := ⟨_, rfl⟩
  rw [hWD] at XD BD ⊢
  have hcf : Hid (∀ W, Blk W w.heap.size sv 30 -> W.rangeAt w.heap.size 0 [.int .i64 s.cf.window, .int .i64 s.cf.room, .int .i64 s.cf.inbox, .int .i64 s.cf.subs, .int .i64 s.cf.sessions, .int .i64 s.cf.retained, .string ⟨s.cf.secret.toArray⟩]) := hid fun W hb => hb.mid [] [.int .i64 s.cf.window, .int .i64 s.cf.room, .int .i64 s.cf.inbox, .int .i64 s.cf.subs, .int .i64 s.cf.sessions, .int .i64 s.cf.retained, .string ⟨s.cf.secret.toArray⟩] [.int .i64 s.pages, .slice s.ht.a s.ht.n s.ht.c] (by rw [<- hsv.out]; rfl)
  refine tQ [0] ?_;refine lR 1 0 rfl rfl rfl rfl (v := .agg ([.int .i64 s.cf.window, .int .i64 s.cf.room, .int .i64 s.cf.inbox, .int .i64 s.cf.subs, .int .i64 s.cf.sessions, .int .i64 s.cf.retained, .string ⟨s.cf.secret.toArray⟩] : List Value).toArray) (fun w' hf => run_loadAt_mid w' _ _ 27 ([.int .i64 s.cf.window, .int .i64 s.cf.room, .int .i64 s.cf.inbox, .int .i64 s.cf.subs, .int .i64 s.cf.sessions, .int .i64 s.cf.retained, .string ⟨s.cf.secret.toArray⟩] : List Value) _ (hcf.out _ hf) Tryz.underlying27 rfl (by kernel_rfl)) ?_
  try simp only [PT]
  refine tQ [2] ?_;refine loadQ 3 rfl (by kernel_rfl) (by kernel_rfl) rfl rfl 0 rfl (by kernel_rfl) (.int .i64 s.pages) (fun w' hf => by (have k0 : w'.cell? ⟨w.heap.size, 7, none⟩ = some (.int .i64 s.pages) := kc.out _ hf 7; go_simp <;> with_reducible rfl)) ?_
  simp only [PT];refine tQ [4] ?_;refine loadQ 5 rfl (by kernel_rfl) (by kernel_rfl) rfl rfl 0 rfl (by kernel_rfl) (.slice s.ht.a s.ht.n s.ht.c) (fun w' hf => by (have k0 : w'.cell? ⟨w.heap.size, 8, none⟩ = some (.slice s.ht.a s.ht.n s.ht.c) := kc.out _ hf 8; go_simp <;> with_reducible rfl)) ?_
  simp only [PT];refine tQ [6] ?_
  have hcut : ∀ W, (Instr.slice 28 (.slice s.ht.a s.ht.n s.ht.c) none (some (.int .i64 (k : Int))) none).run Tryz.prog W = .ok (.slice s.ht.a k s.ht.c) W := fun W => by
   rw [run_slice_h W 28 s.ht.a s.ht.n s.ht.c (by kernel_rfl) .i64 (k : Int) (by omega) hkc]
   rw [show (sizeOf (Tryz.prog.elem 28)).run Tryz.prog W = .ok 30 W by kernel_rfl]
   simp only [Result.andThen, sliced, Nat.zero_mul, Nat.sub_zero, Int.toNat_natCast]
   cases s.ht.a <;> simp [Addr.add]
  refine sliceQ 7 rfl (by kernel_rfl) (by kernel_rfl) rfl (by kernel_rfl) _ hcut ?_
  try simp only [PT]
  refine tQ [8] ?_;refine sQ 9 fun K hK => ?_;simp only [GO];go_simp;refine hK _ _ ⟨⟨fun _ => XD.alloc _, trivial⟩, ?_⟩
  clear hK K;try simp only [PT]
  refine sQ 10 fun K hK => ?_;simp only [GO];refine wW 30 9 rfl WD.heap.size _ (s.cut k).cells.toArray rfl rfl (Blk.new _ _ _) rfl rfl (by simp [ScC.cells, Value.oneCell']) fun w3 hw3 hr3 => ?_
  have bW : Below w2.heap.size w2 WD := by rw [<- hWD]; exact (Below.refl _ _).drew
  have b23 : Hid (Below w2.heap.size w2 w3) := hid ((bW.alloc bW.size _).trans (hr3.below (by have := bW.size; simp; omega) (by have := bW.size; simp; omega)))
  have bal : Below w.heap.size WD w3 := ((Below.refl _ _).alloc BD.size _).trans (hr3.below (by have := BD.size; simp; omega) (by have := BD.size; simp; omega))
  have X3 := (XD.alloc (.cells zSc.cells.toArray 30)).keepW hr3 (by have := XD.lt; simp; omega)
  have B3 := BD.trans bal
  refine hK _ _ ⟨⟨fun _ => X3, trivial⟩, ?_⟩
  clear hK K;try simp only [PT]
  refine dQ (hKQ.out _ _ ?_);clear hKQ KQ;have hcs : Hid (WD.heap.size ≠ w.heap.size) := hid (by have := XD.lt; omega)
  obtain ⟨cb, hcb⟩ : ∃ c, WD.heap.size = c := ⟨_, rfl⟩
  rw [hcb] at hw3 hcs ⊢
  obtain ⟨cv, hcv⟩ : ∃ c, (s.cut k).cells.toArray = c := ⟨_, rfl⟩
  rw [hcv] at hw3
  have icv : Hid ((Tryz.prog.info? 30).map (·.size) = some cv.size) := hid (by rw [<- hcv]; exact (by kernel_rfl : (Tryz.prog.info? 30).map (·.size) = some 9))
  have hz3 : Hid ((z = 0 /\ rightS s.sc /\ (rawS pkC s.sc).length <= 65536 /\ w3.ownsRow w.heap.size 5 1 v (rawS pkC s.sc).length (bs (rawS pkC s.sc))) \/ z ≠ 0) := hid (by
   rcases hz.out with ⟨h1, h2, h3, h4⟩ | h1
   ·exact .inl ⟨h1, h2, h3, ownsRow_mono (ownsRow_below h4 b23.out) HB.out.size⟩
   ·exact .inr h1)
  have HX3 := hid X3;have HB3 := hid B3;have CR2 := hid (sc_RawPk (s.cut k) w3 (HSc.out w3 B3) (hT.out.below B3) (fun x hx _ => hp.out x (List.mem_of_mem_take hx)))
  rw [hcv] at CR2
  replace hcv := hid hcv;replace hcb := hid hcb;clear hz XD BD X3 B3 bal hr3 hWD X2 B2 hx hcut hkc hkm;go_wp2_with (refine wL 30 rfl rfl hw3 Tryz.underlying30 ?_ rfl rfl icv.out)
  refine CR2.out.mono ?_
  rintro e w4 ⟨hb4, hout4⟩
  have HB4 := hid (HB3.out.trans (hb4.mono HB3.out.size))
  have T4 := hid (hT.out.below HB4.out)
  have C4 := hid (hw3.below hb4)
  have hrp := hid (cut_right (s := s))
  obtain ⟨rr, hrr⟩ := cut_raw s k
  have hrr := hid hrr;rcases hz3.out with ⟨rfl, hrs, hfit, how⟩ | hzn
  ·have hlc : Hid ((rawS pkC (s.cut k).sc).length <= (rawS pkC s.sc).length) := hid (by rw [hrr.out, List.length_append]; omega)
   obtain ⟨v2, rfl, how2⟩ : ∃ v2, e = .returned (.tuple #[v2, .int .i64 0]) /\ w4.ownsRow w3.heap.size 5 1 v2 (rawS pkC (s.cut k).sc).length (bs (rawS pkC (s.cut k).sc)) := by
    rcases hout4 with ⟨h1, h2, v2, rfl, h3⟩ | ⟨h1, h2, rfl⟩ | ⟨h1, rfl⟩
    ·exact ⟨v2, rfl, h3⟩
    ·exact absurd (Nat.le_trans hlc.out hfit) h2
    ·exact absurd (hrp.out hrs k) h1
   have how4 := ownsRow_below how hb4
   obtain ⟨a1, c1, rfl, hr1⟩ := RowAt.of_own how4
   obtain ⟨a2, c2, rfl, hr2⟩ := RowAt.of_own how2
   obtain ⟨l1, hl1⟩ : ∃ l, rawS pkC s.sc = l := ⟨_, rfl⟩
   obtain ⟨l2, hl2⟩ : ∃ l, rawS pkC (s.cut k).sc = l := ⟨_, rfl⟩
   rw [hl1] at hfit hr1 hrr hlc ⊢
   rw [hl2] at hr2 hrr hlc ⊢
   obtain ⟨n1', hn1⟩ : ∃ n, l1.length = n := ⟨_, rfl⟩
   obtain ⟨n2', hn2⟩ : ∃ n, l2.length = n := ⟨_, rfl⟩
   rw [hn1, hn2] at hlc
   rw [hn1] at hfit hr1 ⊢
   rw [hn2] at hr2 ⊢
   have hle := hlc.out
   have hrs := hid hrs;have hl1 := hid hl1;have hl2 := hid hl2;have htk : Hid (l1.take n2' = l2) := hid (by rw [hrr.out, <- hn2]; simp)
   have R1 := hid (fun W (hb : Below w4.heap.size w4 W) => hr1.below hb)
   have R2 := hid (fun W (hb : Below w4.heap.size w4 W) => hr2.below hb)
   have hc1 := hr1.le
   have hc1m := hr1.max
   replace hn1 := hid hn1;replace hn2 := hid hn2;clear hout4 how how2 how4 hb4 hz3 hw3 HX3 CR2 hr1 hr2 hlc;go_upto_region 8 with fail
   try simp only [PT]
   have hcut8 : ∀ W, (Instr.slice 22 (.slice a1 n1' c1) none (some (.int .i64 (n2' : Int))) none).run Tryz.prog W = .ok (.slice a1 n2' c1) W := fun W => by
    rw [run_slice_h W 22 a1 n1' c1 Tryz.uelB .i64 (n2' : Int) (by omega) (by omega), Tryz.szB]
    simp only [Result.andThen, sliced, Nat.zero_mul, Nat.sub_zero, Int.toNat_natCast]
    cases a1 <;> simp [Addr.add]
   refine regionQ [(1000, fun w' => RowAt w' a1 n2' c1 (bs l2)), (1000, fun w' => RowAt w' a2 n2' c2 (bs l2))] (by kernel_rfl) ⟨by have h9 := (R1.out w4.drew (Below.refl _ _).drew).take n2' hle; rw [bs_take, htk.out] at h9; exact h9, R2.out w4.drew (Below.refl _ _).drew, trivial⟩ fun KQ hKQ => ?_
   try simp only [PT]
   have hd1 : decide ((n1' : Int) < (n2' : Int)) = false := decide_eq_false (by omega)
   have hd2 : decide (n1' < n2') = false := decide_eq_false (by omega)
   have hd3 : decide ((n2' : Int) > (n1' : Int)) = false := decide_eq_false (by omega)
   refine tQ [0, 1, 2, 3, 4, 5, 6, 7, 8, 9, 10, 11, 12] ?_;refine sliceQ 13 rfl (by kernel_rfl) (by kernel_rfl) rfl Tryz.uelB _ hcut8 ?_
   try simp only [PT]
   refine convQ 14 rfl (by kernel_rfl) (by kernel_rfl) rfl rfl 0 rfl (by kernel_rfl) (.string ⟨l2.toArray⟩) (fun w' hf => by (exact run_str hf)) ?_
   simp only [PT];refine tQ [15] ?_;refine convQ 16 rfl (by kernel_rfl) (by kernel_rfl) rfl rfl 1 rfl (by kernel_rfl) (.string ⟨l2.toArray⟩) (fun w' hf => by (exact run_str hf)) ?_
   simp only [PT];refine readQ 17 rfl (by kernel_rfl) (.bool false) (by kernel_rfl) (fun w' _ => by go_simp <;> with_reducible rfl) ?_
   try simp only [PT]
   refine tQ [18] ?_;refine dQ (hKQ.out _ _ ?_);clear hKQ KQ;obtain ⟨w5, hw5⟩ : ∃ W, w4.drew = W := ⟨_, rfl⟩
   have b45 : Below w4.heap.size w4 w5 := by rw [<- hw5]; exact (Below.refl _ _).drew
   rw [hw5]
   have HB5 := hid (HB4.out.trans (b45.mono HB4.out.size))
   have T5 := hid (hT.out.below HB5.out)
   have C5 := hid (C4.out.below b45)
   have CP := hid (sc_ParsePk a1 n2' c1 l2 w5 (by have h9 := (R1.out w5 b45).take n2' hle; rw [bs_take, htk.out] at h9; exact h9) (by omega) T5.out)
   have hsl := hid (HSc.out w5 HB5.out)
   clear hw5 b45 C4 R1 R2 hd1;go_wp2_with fail
   refine CP.out.mono ?_
   rintro e w6 ⟨hb6, hout6⟩
   have hl65 : l2.length <= 65536 := by rw [hn2.out]; omega
   have hrb : ∃ s0, rScript pkC false l2 = some s0 /\ rightS s0 /\ s0 = (s.cut k).sc := ⟨(s.cut k).sc, by rw [<- hl2.out]; exact rScript_B pkC (hrp.out hrs.out k), hrp.out hrs.out k, rfl⟩
   obtain ⟨o, ho1, rfl, ho3⟩ : ∃ o : ScC, o.sc = (s.cut k).sc /\ e = .returned (.tuple #[.agg o.cells.toArray, .int .i64 0]) /\ o.In w6 := by
    obtain ⟨s0, g1, g2, g3⟩ := hrb
    rcases hout6 with ⟨h1, -⟩ | ⟨-, h2, -⟩ | ⟨-, o, h3, h4, h5, h6⟩
    ·omega
    ·exact absurd g2 (h2 s0 g1)
    ·refine ⟨o, ?_, h5, h6⟩
     rw [g1] at h3
     rw [<- Option.some.inj h3, g3]
   have ho1 := hid ho1;have ho3 := hid ho3;have HB6 := hid (HB5.out.trans (hb6.mono HB5.out.size))
   have C6 := hid (C5.out.below hb6)
   have S6 := hid (hsl.out.below hb6)
   obtain ⟨ov, hov⟩ : ∃ v, o.cells.toArray = v := ⟨_, rfl⟩
   rw [hov]
   have iov : Hid ((Tryz.prog.info? 30).map (·.size) = some ov.size) := hid (by rw [<- hov]; exact (by kernel_rfl : (Tryz.prog.info? 30).map (·.size) = some 9))
   have hz9 : Hid (ov.size = 9) := hid (by rw [<- hov]; rfl)
   have hone : Hid (∀ v ∈ ov.toList, v.oneCell' = true) := hid (by rw [<- hov]; simp [ScC.cells, Value.oneCell'])
   have hcv' := hcv
   replace hov := hid hov;have BN := Blk.new w6 zSc.cells.toArray 30
   clear hout6 hrb hb6 hl65 CP T5 C5 hsl;go_upto_region 11 with (refine wS 30 9 rfl w6.heap.size _ ov rfl rfl BN hz9.out rfl hone.out ?_; intro w7 hw7 hr7)
   have b67 : Below w6.heap.size w6 w7 := ((Below.refl _ _).alloc (Nat.le_refl _) _).trans (hr7.below (by simp) (by simp))
   have HB7 := hid (HB6.out.trans (b67.mono HB6.out.size))
   have T7 := hid (hT.out.below HB7.out)
   have C7 := C6.out.below b67
   have CS := hid (r28_Same o (s.cut k) w7 (ho3.out.below b67) (S6.out.below b67))
   rw [hov.out, hcv.out] at CS
   clear BN b67 hr7 C6 S6
   go_wp2_with (first
    | (refine wLG 30 rfl rfl hw7 Tryz.underlying30 rfl ?_ iov.out)
    | (refine wLG 30 rfl rfl C7 Tryz.underlying30 rfl ?_ icv.out))
   refine CS.out.mono ?_
   rintro e w8 ⟨sb, rfl, hsb, hb8⟩
   obtain rfl : sb = true := hsb.2 ho1.out
   have HB8 := hid (HB7.out.trans (hb8.mono HB7.out.size))
   have T8 := hid (hT.out.below HB8.out)
   clear hsb hb8 hw7 C7;go_wp2_with (go_at_call 7; refine (known28 _ T8.out).mono ?_; rintro e wk ⟨rfl, hbk⟩)
   go_ret
   exact ⟨rfl, HB8.out.trans (hbk.mono HB8.out.size)⟩
  ·obtain ⟨v2, z2, rfl⟩ : ∃ v2 z2, e = .returned (.tuple #[v2, .int .i64 z2]) := by
    rcases hout4 with ⟨h1, h2, v2, rfl, h3⟩ | ⟨h1, h2, rfl⟩ | ⟨h1, rfl⟩
    ·exact ⟨v2, _, rfl⟩
    ·exact ⟨_, _, rfl⟩
    ·exact ⟨_, _, rfl⟩
   have dz : (z != 0) = true := by simpa using hzn
   clear hout4 hz3 hb4 hw3 HX3 CR2;go_wp2_with (go_at_call 7; refine (known28 _ T4.out).mono ?_; rintro e wk ⟨rfl, hbk⟩)
   go_ret
   exact ⟨rfl, HB4.out.trans (hbk.mono HB4.out.size)⟩
theorem walk_ScriptCuts (s : ScC) (n : Int) (w : World) (hs : s.In w) (hT : TzAt w) (hp : ∀ x ∈ s.ts, PkS x.t.pk) : Calls Tryz.prog 4 #[.agg s.cells.toArray, .int .i64 n] w fun e w' => e = .returned (.bool true) /\ Below w.heap.size w w' :=
 (walk_ScriptCuts' s n w hs hT hp).mono fun e w' h => h.out
end
section
structure GS (Z : Array Value) : Prop where
 size : Z.size = 22
 one : ∀ v ∈ Z.toList, v.oneCell' = true
theorem GS.set {Z : Array Value} (h : GS Z) (i : Nat) (v : Value) (hv : v.oneCell' = true) : GS (Z.setIfInBounds i v) := by
 refine ⟨by simp [h.size], fun u hu => ?_⟩
 rw [Array.toList_setIfInBounds] at hu
 exact (List.mem_or_eq_of_mem_set hu).elim (h.one u) (fun e => e ▸ hv)
theorem GS.splice {Z cs : Array Value} (h : GS Z) (j : Nat) (hj : j + cs.size <= 22) (hc : ∀ v ∈ cs.toList, v.oneCell' = true) : GS (splice Z j cs) := by
 refine ⟨by rw [splice_size (by rw [h.size]; exact hj), h.size], fun u hu => ?_⟩
 unfold YtkghejaimhoboaaGreatDoor.splice at hu
 simp only [List.mem_append] at hu
 rcases hu with (hu | hu) | hu
 ·exact h.one u (List.mem_of_mem_take hu)
 ·exact hc u hu
 ·exact h.one u (List.mem_of_mem_drop hu)
end
section
structure AcV where
 kind : Int
 qos : Int
 topic : List UInt8
 body : List UInt8
 truth : Bool
 has : Bool
 will : WillV
 pack : Int
 n : Int
 now : Int
def AcV.cells (a : AcV) : Array Value := #[.int .i64 a.kind, .int .i64 a.qos, .string ⟨a.topic.toArray⟩, .string ⟨a.body.toArray⟩, .bool a.truth, .bool a.has, .string ⟨a.will.topic.toArray⟩, .string ⟨a.will.body.toArray⟩, .int .i64 a.will.qos, .bool a.will.retain, .int .i64 a.pack, .int .i64 a.n, .int .i64 a.now]
end
section
structure AcsAt (w : World) (a : Option Addr) (n cap : Nat) (xs : List AcV) : Prop where
 len : xs.length = n
 le : n <= cap
 max : cap <= maxLen
 at' : ∀ i x, xs[i]? = some x -> ∃ g off, a = some ⟨g, off, none⟩ /\ g < w.heap.size /\ w.rangeAt g (off + i * 13) x.cells.toList
theorem AcsAt.below {w w' : World} {a : Option Addr} {n cap : Nat} {xs : List AcV} (h : AcsAt w a n cap xs) (hb : Below w.heap.size w w') : AcsAt w' a n cap xs :=
 ⟨h.len, h.le, h.max, fun i x hx => by
  obtain ⟨g, off, h1, h2, h3⟩ := h.at' i x hx
  exact ⟨g, off, h1, Nat.lt_of_lt_of_le h2 hb.size, range_below h3 h2 hb⟩⟩
def AcV.cl (x : AcV) : List Value := x.cells.toList
theorem AcV.cllen (x : AcV) : x.cl.length = 13 := rfl
end
section
open Go.RowKit Go.Shelf Go.Deep
variable {H : Type} {enc : TypeId × Value -> H}
instance : Inhabited AcV := ⟨⟨0, 0, [], [], false, false, noWill, 0, 0, 0⟩⟩
theorem will_of {w : World} {base : Nat} {sp : Nat -> Bool} {held : Bool} {fuel : Nat} {cs : List Value} {x : DataW H × List MemPlace} (h : DataW.trod enc Tryz.prog w base sp held fuel 47 cs = some x) : ∃ y : WillV, cs = y.vals.toList := by
 obtain ⟨xs, k, _, _, hlen, hxl, hf⟩ := DataW.trod_struct Tryz.underlying47 h
 have c7 : Tryz.prog.cellsOf 47 = 4 := by kernel_rfl
 rw [c7] at hlen
 have i1 : Tryz.prog.cellsOf 3 = 1 := by kernel_rfl
 have i2 : Tryz.prog.cellsOf 9 = 1 := by kernel_rfl
 have i3 : Tryz.prog.cellsOf 4 = 1 := by kernel_rfl
 match cs, hlen with
 | [v0, v1, v2, v3], _ =>
  have g0 : DataW.trod enc Tryz.prog w base sp held k 9 (([v0, v1, v2, v3].drop 0).take (Tryz.prog.cellsOf 9)) = xs[0]? := hf 0 _ rfl
  have g1 : DataW.trod enc Tryz.prog w base sp held k 9 (([v0, v1, v2, v3].drop 1).take (Tryz.prog.cellsOf 9)) = xs[1]? := hf 1 _ rfl
  have g2 : DataW.trod enc Tryz.prog w base sp held k 3 (([v0, v1, v2, v3].drop 2).take (Tryz.prog.cellsOf 3)) = xs[2]? := hf 2 _ rfl
  have g3 : DataW.trod enc Tryz.prog w base sp held k 4 (([v0, v1, v2, v3].drop 3).take (Tryz.prog.cellsOf 4)) = xs[3]? := hf 3 _ rfl
  rw [i2] at g0 g1
  rw [i1] at g2
  rw [i3] at g3
  have hx7 : xs.length = 4 := hxl
  rw [List.getElem?_eq_getElem (by omega)] at g0 g1 g2 g3
  obtain ⟨s0, e0, _⟩ := DataW.trod_string Tryz.underlying9 g0
  obtain ⟨s1, e1, _⟩ := DataW.trod_string Tryz.underlying9 g1
  obtain ⟨n2, e2, _⟩ := DataW.trod_int Tryz.underlying3 g2
  obtain ⟨b3, e3, _⟩ := DataW.trod_bool Tryz.underlying4 g3
  simp at e0 e1 e2 e3
  subst e0 e1 e2 e3;exact ⟨⟨s0.data.toList, s1.data.toList, n2, b3⟩, by simp [WillV.vals]⟩
end
end Go.Proofs.YtkghejaimhoboaaGreatDoor
