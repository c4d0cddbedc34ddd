/- Parts of the proof of ScriptCuts: contracts of functions that it reaches, and plain lemmas. No condition of their own. -/
import Derived.Test.YtkghejaimhoboaaGreatDoorPk40
import Derived.Test.YtkghejaimhoboaaGreatDoorPk43
import Derived.Test.YtkghejaimhoboaaGreatDoorPk02
import Derived.Test.YtkghejaimhoboaaGreatDoorPk34
set_option linter.unusedSimpArgs false
set_option linter.unusedVariables false
set_option maxRecDepth 100000
set_option maxHeartbeats 8000000
namespace Go.Proofs.YtkghejaimhoboaaGreatDoor
open Go.RowKit Go.Shelf
section
attribute [local go_sem] Oper.semAt_some
structure PsA (s : List UInt8) (w : World) (e : Ending) (w' : World) : Prop where
 below : Below w.heap.size w w'
 out : ∃ (y : Pk) (h : H3) (z : Int), e = .returned (.tuple #[.agg (y.cells h).toArray, .int .i64 z]) /\ ((z = 0 /\ parsePk s = some y) \/ (z ≠ 0 /\ parsePk s = none)) /\ ∀ M, (∀ b ∈ M, b < w.heap.size) -> PkN w' y h M
theorem PsA.no {s : List UInt8} {w w' : World} (hb : Below w.heap.size w w') (h : parsePk s = none) : PsA s w (.returned (.tuple #[.agg zPc, .int .i64 260])) w' :=
 ⟨hb, zPk 0, h3Z, 260, rfl, .inr ⟨by decide, h⟩, fun M _ => PkN.zero _ _ ⟨rfl, rfl, rfl⟩ M⟩
theorem Leaves_congr {P : Program} {fn : Func} {t t' : Array Value} {R : Ending -> World -> Prop} (h : results fn t = results fn t') : ∀ (ds : List Deferred) (u : FrameMode) (w : World), Leaves P fn t R ds u w = Leaves P fn t' R ds u w
 | [], u, w => by cases u <;> simp only [Leaves, h]
 | d :: ds, u, w => by
  have ih := Leaves_congr h (R := R) (P := P) ds
  simp only [Leaves, ih]
theorem dst_free {ops : Array Oper} {i : Nat} {oi : Oper} (hi : ops[i]? = some oi) (h : ops.all (fun o => o.dst != some 2 && o.dst != some 3) = true) : oi.dst ≠ some 2 /\ oi.dst ≠ some 3 := by
 obtain ⟨hlt, rfl⟩ := Array.getElem?_eq_some_iff.1 hi
 have := Array.all_eq_true.1 h i hlt
 simpa using this
theorem box_pk {w : World} {p b : Nat} {T : TypeId} {v : Value} (h : Blk w p zPc 52) (k : Boxed w b T v) : b ≠ p := fun e => by
 have h1 : w.heap[p]? = _ := h
 have h2 : w.heap[b]? = _ := k
 rw [e, h1] at h2
 have h3 := (Obj.cells.inj (Option.some.inj h2)).1
 have h4 := congrArg Array.size h3
 exact absurd h4 (by show ¬ (24 = 1); decide)
theorem wire_LeftB {w : World} {p : Nat} {a : Option Addr} {n c : Nat} (h1 : Blk w p #[.slice a n c, .bool true] 94) : Calls Tryz.prog 25 #[.pointer (some ⟨p, 0, none⟩)] w fun e w' => e = .returned (.int .i64 n) /\ w = w' := by
 have k1 := h1.cell 1
 have k0 := h1.cell 0
 simp at k0
 have CN : Hid (Calls Tryz.prog 44 #[.pointer (some ⟨p, 0, none⟩)] w fun e w' => e = .returned (.bool false) /\ w = w') := hid (by
  go_enter Tryz.func44, Tryz.ntmps44
  go_wp2
  go_ret
  exact ⟨rfl, rfl⟩)
 go_enter Tryz.func25, Tryz.ntmps25
 go_wp2_with (go_at_call 44; refine CN.out.mono ?_; rintro e w' ⟨rfl, rfl⟩)
 go_ret
 exact ⟨rfl, rfl⟩
structure PtI (w : World) (pc : Array Value) (z : Pk) (hh : H3) (kb rb q : Nat) (cs : Array Value) (b : Nat -> Nat) (n9 : Nat) (W : World) : Prop where
 below : Below w.heap.size w W
 pk : Blk W w.heap.size pc 52
 er : Boxed W (w.heap.size + 1) 31 (.int .i64 0)
 shp : Blk W kb cs 150
 rdr : Blk W rb #[.pointer (some ⟨q, 0, none⟩)] 161
 left : ∃ a c, Blk W q #[.slice a n9 c, .bool true] 94
 box : ∀ k, 4 <= k -> k <= 11 -> LiAt b k W
 rows : ∀ M, (∀ y ∈ M, y < w.heap.size + 2) -> PkN W z hh M
theorem PtI.step {w : World} {pc : Array Value} {z : Pk} {hh : H3} {kb rb q : Nat} {cs : Array Value} {b : Nat -> Nat} {n9 : Nat} {W W' : World} (h : PtI w pc z hh kb rb q cs b n9 W) (hb : Below W.heap.size W W') : PtI w pc z hh kb rb q cs b n9 W' := by
 obtain ⟨a, c, hl⟩ := h.left
 exact ⟨h.below.trans (hb.mono h.below.size), h.pk.below hb, boxed_below h.er hb, h.shp.below hb, h.rdr.below hb, ⟨a, c, hl.below hb⟩, fun k h4 h11 => LiB.below (h.box k h4 h11) hb, fun M hM => (h.rows M hM).step (M' := []) (Wrote.of_below hb) (fun _ hx => by cases hx) (fun x hx => .inl hx)⟩
theorem PkN.inn {w : World} {p : Pk} {h : H3} {M : List Nat} (k : PkN w p h M) : p.In w h := ⟨k.lw.at', k.lc.at', k.lf.at'⟩
theorem pk_Parse (a : Option Addr) (n c : Nat) (s : List UInt8) (w : World) (hrow : RowAt w a n c (bs s)) (hn : n <= 65536) : Calls Tryz.prog 57 #[.slice a n c] w (PsA s w) := by
 have hmf : ∀ (fn : Fn) (first cap : Array Value) (w : World), (Instr.makeFunc fn first cap).run Tryz.prog w = .ok (.func fn first cap) w := fun _ _ _ _ => rfl
 have CM := hid pk_must;have hl : s.length = n := by have := hrow.len; rw [bs_len] at this; exact this
 obtain ⟨W0, hW0⟩ : ∃ W0, w.alloc (.cells #[.int .i64 0, .bool false, .bool false, .int .i64 0, .string ⟨#[]⟩, .string ⟨#[]⟩, .int .i64 0, .string ⟨#[]⟩, .bool false, .int .i64 0, .bool false, .string ⟨#[]⟩, .string ⟨#[]⟩, .int .i64 0, .bool false, .bool false, .bool false, .string ⟨#[]⟩, .string ⟨#[]⟩, .bool false, .int .i64 0, .slice none 0 0, .slice none 0 0, .slice none 0 0] 52) = W0 := ⟨_, rfl⟩
 have s0 : W0.heap.size = w.heap.size + 1 := by rw [<- hW0]; simp
 obtain ⟨W1, hW1⟩ : ∃ W1, W0.alloc (.cells #[.int .i64 0] 31) = W1 := ⟨_, rfl⟩
 have s1 : W1.heap.size = w.heap.size + 2 := by rw [<- hW1]; simp; omega
 have b0 : Below w.heap.size w W0 := by rw [<- hW0]; exact (Below.refl _ _).alloc (Nat.le_refl _) _
 have b1 : Below w.heap.size w W1 := by rw [<- hW1]; exact b0.alloc b0.size _
 have p1 : Blk W1 w.heap.size zPc 52 := by rw [<- hW1, <- hW0]; exact (Blk.new _ _ _).alloc _
 have e1 : Boxed W1 (w.heap.size + 1) 31 (.int .i64 0) := by
  have := Boxed.new W0 31 (.int .i64 0)
  rw [hW1, s0] at this
  exact this
 have P1 := hid p1;have E1 := hid e1;have B1 := hid b1;have HR := hid (hrow.below b1)
 have HRW := hid (fun W (hb : Below w.heap.size w W) => hrow.below hb)
 have HL := hid hl;clear p1 e1 b1 b0 hrow hl;by_cases h2 : 2 <= n
 ·have d : decide (2 <= (n : Int)) = true := decide_eq_true (by omega)
  obtain ⟨x0, r, hs⟩ : ∃ x r, s = x :: r := by
   cases s with
   | nil => have := HL.out; simp at this; omega
   | cons x r => exact ⟨x, r, rfl⟩
  have hrl : Hid (r.length + 1 = n) := hid (by rw [<- HL.out, hs]; rfl)
  have hrr : RowAt W1 (cutA a c 1) (n - 1) (c - 1) (bs r) := by
   have h9 := HR.out.from (i := 1) (by omega)
   rw [show (bs s).drop 1 = bs r by rw [hs]; simp [bs]] at h9
   exact h9
  have hcut := fun W => run_cut_l Tryz.uelB Tryz.szB a n c (1 : Int) 1 rfl (by omega) W
  have CL := hid (len_read _ _ _ r W1 hrr)
  have hpp : Hid (parsePk s = if (readL r).2.2 = 0 /\ (readL r).2.1 ≠ 0 /\ (r.length : Int) - (readL r).2.1 = (readL r).1 then (readP ((x0.toNat / 16 : Nat) : Int) (x0.toNat % 16) (r.drop (readL r).2.1.toNat)).bind fun x => if x.2 = [] /\ flagN x.1 = x0.toNat % 16 /\ rightP x.1 then some x.1 else none else none) := hid (by rw [hs]; rfl)
  obtain ⟨rn, hrn⟩ : ∃ z, (readL r).1 = z := ⟨_, rfl⟩
  obtain ⟨rs, hrs⟩ : ∃ z, (readL r).2.1 = z := ⟨_, rfl⟩
  obtain ⟨re, hre⟩ : ∃ z, (readL r).2.2 = z := ⟨_, rfl⟩
  rw [hrn, hrs, hre] at CL hpp
  replace hrn := hid hrn;replace hrs := hid hrs;replace hre := hid hre;replace hs := hid hs;clear hrr;go_enter_defers Tryz.func57, Tryz.ntmps57
  go_wp2_with (go_at_call 95; refine (CM.out _ _).mono ?_; rintro e w2 ⟨rfl, rfl⟩)
  refine CL.out.mono ?_
  rintro e w2 ⟨rfl, hb2⟩
  have P2 := hid (P1.out.below hb2)
  have E2 := boxed_below E1.out hb2
  have B2 := hid (B1.out.trans (hb2.mono B1.out.size))
  have k2 := E2.cell
  have f2 := E2.frozen
  have E2 := hid E2;clear hb2;go_upto_region 4 with fail
  have hw3' : Wrote [w.heap.size + 1] w2 (w2.setCell ⟨w.heap.size + 1, 0, none⟩ (.int .i64 re)) := Wrote.setCell w2 _ (by simp) _
  obtain ⟨w3, hw3⟩ : ∃ W, w2.setCell ⟨w.heap.size + 1, 0, none⟩ (.int .i64 re) = W := ⟨_, rfl⟩
  have E3 : Boxed w3 (w.heap.size + 1) 31 (.int .i64 re) := by rw [<- hw3]; exact E2.out.set _
  rw [hw3] at hw3' ⊢
  have P3 := hid (P2.out.keepW hw3' (by simp))
  have B3 := hid (B2.out.trans (hw3'.below B2.out.size (by simp)))
  have k3 := E3.cell
  have E3 := hid E3;have R3 := hid (HR.out.below (((Below.refl W1.heap.size W1)).trans (Below.refl _ _)))
  clear hw3 hw3' k2 f2 P2 E2 B2;by_cases h0 : re = 0
  ·subst h0
   by_cases h1 : rs = 0
   ·have hno : Hid (parsePk s = none) := hid (by rw [hpp.out, if_neg (by omega)])
    have d1 : decide (0 < rs) = false := decide_eq_false (by omega)
    go_wp2_with (go_at_call 95; refine (CM.out _ _).mono ?_; rintro e w4 ⟨rfl, rfl⟩)
    refine leaves_cons (f := 94) (args := #[.pointer (some ⟨w.heap.size, 0, none⟩), .pointer (some ⟨w.heap.size + 1, 0, none⟩)]) (by simp) (by simp [go_sem]) ?_
    refine (pk_catch _ _ zPc 0 w3 rfl P3.out E3.out (by omega)).mono ?_
    rintro e u' w9 ⟨rfl, rfl, hp9, he9, hw9⟩
    simp only [Leaves, settle, List.dropWhile]
    have k9 := he9.cell
    have f9 := run_loadVar_blk hp9 52 Tryz.underlying52 rfl (by kernel_rfl)
    refine ⟨_, results_cc (v := .agg zPc) (x := .int .i64 260) Tryz.results57 rfl rfl f9 (by simp [go_sem, k9, loadVar]), ?_⟩
    exact PsA.no (B3.out.trans (hw9.below B3.out.size (by simp))) hno.out
   ·obtain ⟨m, hm1, hm2, hm3, hm4, hm5⟩ := readL_some (l := r) (by rw [hre.out]) (by rw [hrs.out]; exact h1)
    have hsz4 := sizeL_le4 (m : Int)
    obtain ⟨sz, hsz⟩ : ∃ k, sizeL (m : Int) = k := ⟨_, rfl⟩
    rw [hsz] at hm3 hm4 hm5 hsz4
    have hrz : rs = (sz : Int) := by rw [<- hrs.out, hm3]
    have d1 : decide (0 < rs) = true := decide_eq_true (by omega)
    have hrb : 0 < rs /\ rs <= 4 := by omega
    by_cases h3 : (n : Int) - 1 - rs = rn
    ·have hyes : Hid (parsePk s = (readP ((x0.toNat / 16 : Nat) : Int) (x0.toNat % 16) (r.drop rs.toNat)).bind fun x => if x.2 = [] /\ flagN x.1 = x0.toNat % 16 /\ rightP x.1 then some x.1 else none) := hid (by rw [hpp.out, if_pos ⟨rfl, h1, by have := hrl.out; omega⟩])
     have hb0 := hrb.1
     have hb4 := hrb.2
     have d3 : ((n : Int) - 1 - rs == rn) = true := by simpa using h3
     replace hm1 := hid hm1;replace hm5 := hid hm5;replace hrz := hid hrz;obtain ⟨bb, off, ha, hcell⟩ := (HRW.out w3 B3.out).byte (show 0 < n by omega)
     have hcell3 : w3.cell? ⟨bb, off + 0, none⟩ = some (.int .u8 ((x0.toNat : Nat) : Int)) := by
      have e9 : s[0]?.getD 0 = x0 := by rw [hs.out]; rfl
      rw [e9] at hcell
      exact hcell
     obtain ⟨xz, hxz⟩ : ∃ z : Int, ((x0.toNat : Nat) : Int) = z := ⟨_, rfl⟩
     have hx0 : 0 <= xz := by omega
     have hx1 : xz < 256 := by have := x0.toNat_lt; omega
     rw [hxz] at hcell3
     replace hxz := hid hxz;subst ha;simp only [Nat.add_zero] at hcell3
     clear hrb hm2 hm3 hm4 hsz hsz4 hpp hcell h3;go_upto_region 5 with (go_at_call 95; refine (CM.out _ _).mono ?_; rintro e w4 ⟨rfl, rfl⟩)
     have CS := hid (pk_shapes w3)
     go_upto_region 6 with fail
     go_wp2_with fail
     refine CS.out.mono ?_
     rintro e w4 ⟨m4, b, rfl, ⟨hm4, hc4⟩, hb4⟩
     obtain ⟨g1, g2, g3, g4, g5, hg, hone, hsome⟩ := shapeG_agg b (xz / 16)
     have hlk := look_sh hm4 (xz / 16) true
     rw [hg] at hlk
     obtain ⟨is, his⟩ : ∃ b', (shapeG b (xz / 16)).isSome = b' := ⟨_, rfl⟩
     rw [his, if_pos rfl] at hlk
     have P4 := hid (P3.out.below hb4)
     have E4 := hid (boxed_below E3.out hb4)
     have B4 := hid (B3.out.trans (hb4.mono B3.out.size))
     have HC4 := hid hc4;have hone := hid hone;have hsome := hid hsome;have his := hid his;have hg := hid hg;have hp4 : Hid (w.heap.size + 1 < w4.heap.size) := hid E4.out.lt
     clear hb4 hc4 hm4 k3 hcell3;go_upto_region 7 with (refine wS 150 5 rfl _ _ #[g1, g2, g3, g4, g5] rfl rfl (Blk.new _ _ _) rfl (by rfl) hone.out ?_; intro w5 hw5 hr5)
     have b5 : Below w4.heap.size w4 w5 := ((Below.refl _ _).alloc (Nat.le_refl _) _).trans (hr5.below (by simp) (by simp))
     have P5 := hid (P4.out.below b5)
     have E5 := hid (boxed_below E4.out b5)
     have B5 := hid (B4.out.trans (b5.mono B4.out.size))
     have HC5 : Hid (∀ k, 4 <= k -> k <= 11 -> LiAt b k w5) := hid fun k h4 h11 => LiB.below (HC4.out k h4 h11) b5
     have G5 := hid hw5;have hs5 : w4.heap.size + 1 <= w5.heap.size := by have := hr5.size; simp at this; omega
     clear hr5 b5 hw5 hlk P4 E4 HC4 P3 E3;try simp only [PT]
     have hkx : Hid (((x0.toNat / 16 : Nat) : Int) = xz / 16) := hid (by rw [<- hxz.out]; omega)
     rw [hkx.out] at hyes
     cases is with
     | false =>
      have hno : Hid (parsePk s = none) := hid (by
       have h14 := shapeG_none (Option.isNone_iff_eq_none.1 (Option.isSome_eq_false_iff.1 his.out))
       rw [hyes.out]
       cases h : readP (xz / 16) (x0.toNat % 16) (r.drop rs.toNat) with
       | none => rfl
       | some x =>
        obtain ⟨y, t⟩ := x
        simp only [Option.bind_some]
        rw [if_neg]
        rintro ⟨h1, h2, h3⟩
        subst h1;have h4 := (readP_some h).2
        have h5 := rightP_kind h3
        rw [h4] at h5
        exact h14 h5)
      go_wp2_with (go_at_call 95; refine (CM.out _ _).mono ?_; rintro e w6 ⟨rfl, rfl⟩)
      refine leaves_cons (f := 94) (args := #[.pointer (some ⟨w.heap.size, 0, none⟩), .pointer (some ⟨w.heap.size + 1, 0, none⟩)]) (by simp) (by simp [go_sem]) ?_
      refine (pk_catch _ _ zPc 0 w5 rfl P5.out E5.out (by omega)).mono ?_
      rintro e u' w9 ⟨rfl, rfl, hp9, he9, hw9⟩
      simp only [Leaves, settle, List.dropWhile]
      have k9 := he9.cell
      have f9 := run_loadVar_blk hp9 52 Tryz.underlying52 rfl (by kernel_rfl)
      refine ⟨_, results_cc (v := .agg zPc) (x := .int .i64 260) Tryz.results57 rfl rfl f9 (by simp [go_sem, k9, loadVar]), ?_⟩
      exact PsA.no (B5.out.trans (hw9.below B5.out.size (by simp))) hno.out
     | true =>
      obtain ⟨nn, hnn, hnn1, hv⟩ := shapeG_some (hsome.out his.out)
      obtain ⟨g1', g2', g3', g4', g5', hv', hrd⟩ := pk_rd b nn hnn1
      rw [hv] at hv'
      simp only [Value.agg.injEq, Array.mk.injEq, List.cons.injEq, and_true] at hv'
      obtain ⟨rfl, rfl, rfl, rfl, rfl⟩ := hv'
      have hrd := hid hrd;have hnn := hid hnn;have HV : Hid (shpV b nn = .agg #[g1, g2, g3, g4, g5]) := hid hv
      clear hv hg;go_upto_region 8 with (go_at_call 95; refine (CM.out _ _).mono ?_; rintro e w6 ⟨rfl, rfl⟩)
      have hszr : sz <= r.length := hm5.out
      have hrz' := hrz.out
      have hcut2 := fun W => run_cut_l Tryz.uelB Tryz.szB (some ⟨bb, off, none⟩) n c (1 + rs) (1 + sz) (by omega) (by have := hrl.out; omega) W
      have hR5 := (HRW.out w5 B5.out).from (i := 1 + sz) (by have := hrl.out; omega)
      rw [show (bs s).drop (1 + sz) = bs (r.drop sz) by rw [hs.out]; unfold bs; rw [<- List.map_drop]; simp [Nat.add_comm]] at hR5
      have CN := hid (wire_NewReader _ _ _ (r.drop sz) w5 hR5 (by omega))
      clear hrz' hszr hR5;go_wp2_with fail
      refine CN.out.mono ?_
      rintro e w6 ⟨q, rfl, hq, R6, hb6⟩
      have hqs : Hid (w.heap.size + 1 < q) := hid (by have := E5.out.lt; omega)
      have hql : Hid (q < w6.heap.size) := hid R6.lt
      have P6 := hid (P5.out.below hb6)
      have E6 := hid (boxed_below E5.out hb6)
      have B6 := hid (B5.out.trans (hb6.mono B5.out.size))
      have HC6 : Hid (∀ k, 4 <= k -> k <= 11 -> LiAt b k w6) := hid fun k h4 h11 => LiB.below (HC5.out k h4 h11) hb6
      have G6 := hid (G5.out.below hb6)
      have hone6 : Hid (∀ v ∈ #[Value.pointer (some ⟨q, 0, none⟩)].toList, v.oneCell' = true) := hid (by simp [Value.oneCell'])
      have R6 := hid R6;have hq5 := hid hq;have hs6 := hb6.size
      have HC5' := hid HC5.out;clear hb6 P5 E5 HC5 hcut2 hcut hq;go_upto_region 9 with (refine wS 161 1 rfl _ _ #[.pointer (some ⟨q, 0, none⟩)] rfl rfl (Blk.new _ _ _) rfl (by rfl) hone6.out ?_; intro w7 hw7 hr7)
      have b7 : Below w6.heap.size w6 w7 := ((Below.refl _ _).alloc (Nat.le_refl _) _).trans (hr7.below (by simp) (by simp))
      have P7 := P6.out.below b7
      have E7 := boxed_below E6.out b7
      have B7 := B6.out.trans (b7.mono B6.out.size)
      have HC7 : ∀ k, 4 <= k -> k <= 11 -> LiAt b k w7 := fun k h4 h11 => LiB.below (HC6.out k h4 h11) b7
      have G7 := G6.out.below b7
      have R7 := R6.out.below b7
      have hqb : Hid (∀ k, 4 <= k -> k <= 11 -> b k + 4 ≠ q) := hid fun k h4 h11 e => by
       have h9 := (HC5'.out k h4 h11).rd.lt
       have := hq5.out
       omega
      obtain ⟨ff, fc, rfl, hff, hrc⟩ := hrd.out
      have hrc := hid hrc
      have xc7 : w7.cell? ⟨bb, off, none⟩ = some (.int .u8 xz) := by
       obtain ⟨b2, o2, e2, hc2⟩ := (HRW.out w7 B7).byte (show 0 < n by omega)
       cases e2
       have e9 : s[0]?.getD 0 = x0 := by rw [hs.out]; rfl
       rw [e9, hxz.out] at hc2
       simpa using hc2
      have hs7 := b7.size
      clear hr7 b7 P6 E6 HC6 G6 R6;try simp only [PT]
      have bD : Below w7.heap.size w7 w7.drew := (Below.refl _ _).drew
      have P8 := P7.below bD
      have E8 := boxed_below E7 bD
      have B8 := B7.trans (bD.mono B7.size)
      have G8 := G7.below bD
      have R8 := R7.below bD
      have X8 := hw7.below bD
      have c8 : w7.drew.cell? ⟨bb, off, none⟩ = some (.int .u8 xz) := xc7
      have HC8 : ∀ k, 4 <= k -> k <= 11 -> LiAt b k w7.drew := fun k h4 h11 => LiB.below (HC7 k h4 h11) bD
      refine regionPO [(1000, fun w' => Blk w' w4.heap.size #[g1, g2, g3, g4, fnV ff fc] 150), (1000, fun w' => Blk w' w6.heap.size #[.pointer (some ⟨q, 0, none⟩)] 161), (1000, fun w' => w'.cell? ⟨bb, off, none⟩ = some (.int .u8 xz))] ?_ (by kernel_rfl) ⟨G8, X8, c8, trivial⟩ fun KQ hKQ => ?_
      ·intro i oi hi c aa vv ww hh
       have hd := dst_free hi (by kernel_rfl)
       clear hi;obtain ⟨dst, _, _, _, _, _⟩ := oi
       cases dst with
       | none => exact hh
       | some d =>
        have h2 : d ≠ 2 := fun e => hd.1 (by rw [e])
        have h3 : d ≠ 3 := fun e => hd.2 (by rw [e])
        refine (Leaves_congr ?_ _ _ _).mp hh
        simp [results, Tryz.results57, Act.put, h2, h3]
      try simp only [PT]
      obtain ⟨WD, hWD⟩ : ∃ W, w7.drew = W := ⟨_, rfl⟩
      rw [hWD] at P8 E8 B8 G8 R8 X8 HC8 ⊢
      refine tQ [0] ?_;refine loadQ 1 rfl (by kernel_rfl) (by kernel_rfl) rfl rfl 0 rfl (by kernel_rfl) (.func (.func ff) #[] fc) (fun w' hf => by (have k0 := hf.cell 4; unfold fnV at k0; go_simp <;> with_reducible rfl)) ?_
      simp only [PT];refine loadQ 2 rfl (by kernel_rfl) (by kernel_rfl) rfl rfl 1 rfl (by kernel_rfl) (.agg #[.pointer (some ⟨q, 0, none⟩)]) (fun w' hf => by (exact run_load_blk hf 161 Tryz.underlying161 rfl (by kernel_rfl))) ?_
      simp only [PT];have hbits : bits .and .u8 xz 15 = ((x0.toNat % 16 : Nat) : Int) := by rw [<- hxz.out]; exact and_low15 _ x0.toNat_lt
      obtain ⟨fz, hfz⟩ : ∃ z : Int, ((x0.toNat % 16 : Nat) : Int) = z := ⟨_, rfl⟩
      rw [hfz] at hbits
      have hfz0 : 0 <= fz := by omega
      have hfz1 : fz < 16 := by omega
      refine tQ [3, 4] ?_;refine loadQ 5 rfl (by kernel_rfl) (by kernel_rfl) rfl rfl 2 rfl (by kernel_rfl) (.int .u8 xz) (fun w' hf => by (have k0 := hf; go_simp <;> with_reducible rfl)) ?_
      simp only [PT];refine tQ [6, 7] ?_;have CR := hrc.out WD _ q (r.drop sz) (x0.toNat % 16) (Nat.mod_lt _ (by decide)) (fun h4 h11 => HC8 nn h4 h11) (fun h4 h11 => hqb.out nn h4 h11) R8 (by simp; have := hrl.out; omega)
      rw [hfz] at CR
      replace hfz := hid hfz;have hbits' := hid hbits;refine sQ 8 fun K hK => ?_;simp only [GO];unfold fnC at hff
      go_simp;refine CR.mono ?_
      rintro e w9 ⟨hw9, ⟨hno, rfl⟩ | ⟨y, hh, r2, hyes2, rfl, R9, hN9⟩⟩
      ·have hno2 : Hid (parsePk s = none) := hid (by rw [hyes.out, hnn.out, hrz.out, Int.toNat_natCast, hno]; rfl)
       have hq0 := hqs.out
       have P9 := P8.keepW hw9 (by simp; omega)
       have E9 := hw9.boxed (by simp; omega) E8
       have B9 := B8.trans (hw9.below B8.size (by simp; omega))
       refine hKQ.out _ _ _ ?_
       refine leaves_cons (f := 94) (args := #[.pointer (some ⟨w.heap.size, 0, none⟩), .pointer (some ⟨w.heap.size + 1, 0, none⟩)]) (by simp) (by simp [go_sem]) ?_
       refine (pk_catch _ _ zPc 0 w9 rfl P9 E9 (by omega)).mono ?_
       rintro e u' w9 ⟨rfl, rfl, hp9, he9, hw9⟩
       simp only [Leaves, settle, List.dropWhile]
       have k9 := he9.cell
       have f9 := run_loadVar_blk hp9 52 Tryz.underlying52 rfl (by kernel_rfl)
       refine ⟨_, results_cc (v := .agg zPc) (x := .int .i64 260) Tryz.results57 rfl rfl f9 (by simp [go_sem, k9, loadVar]), ?_⟩
       exact PsA.no (B9.trans (hw9.below B9.size (by simp))) hno2.out
      ·have hq0 := hqs.out
       have hq6 := hql.out
       have hq5' := hq5.out
       have hps : Hid (parsePk s = if r2 = [] /\ flagN ({ y with kind := (nn : Int) } : Pk) = x0.toNat % 16 /\ rightP ({ y with kind := (nn : Int) } : Pk) then some ({ y with kind := (nn : Int) } : Pk) else none) := hid (by rw [hyes.out, hnn.out, hrz.out, Int.toNat_natCast, hyes2]; rfl)
       have hsm := readP_small hyes2 (by simp; have := hrl.out; omega)
       have P9 := P8.keepW hw9 (by simp; omega)
       have E9 := hw9.boxed (by simp; omega) E8
       have B9 := B8.trans (hw9.below B8.size (by simp; omega))
       have G9 := G8.keepW hw9 (by simp; omega)
       have X9 := X8.keepW hw9 (by simp; omega)
       have xc : Hid (∀ W, Below w.heap.size w W -> W.cell? ⟨bb, off, none⟩ = some (.int .u8 xz)) := hid fun W hb => by
        obtain ⟨b2, o2, e2, hc2⟩ := (HRW.out W hb).byte (show 0 < n by omega)
        cases e2
        have e9 : s[0]?.getD 0 = x0 := by rw [hs.out]; rfl
        rw [e9, hxz.out] at hc2
        simpa using hc2
       have HC9 : ∀ k, 4 <= k -> k <= 11 -> LiAt b k w9 := fun k h4 h11 => by
        have h9 := (HC5'.out k h4 h11).rd.lt
        exact LiB.wrote (HC8 k h4 h11) hw9 (by simp; omega) (by simp; omega) (by simp; omega) (by simp; omega) (by simp; omega)
       have hyes2 := hid hyes2;have hsm := hid hsm;have hwd : Hid (w.heap.size + 1 < WD.heap.size) := hid E8.lt
       have hnb9 : Hid (∀ k, 4 <= k -> k <= 11 -> b k ≠ w.heap.size /\ b k + 1 ≠ w.heap.size /\ b k + 2 ≠ w.heap.size /\ b k + 3 ≠ w.heap.size /\ b k + 4 ≠ w.heap.size) := hid fun k h4 h11 => by
        have x := HC9 k h4 h11
        exact ⟨box_pk P9 x.fl, box_pk P9 x.has, box_pk P9 x.may, box_pk P9 x.wr, box_pk P9 x.rd⟩
       refine hK _ _ ⟨⟨fun _ => G9, fun _ => X9, fun _ => xc.out _ B9, trivial⟩, ?_⟩
       clear hK K CR;try simp only [PT]
       refine sQ 9 fun K hK => ?_;simp only [GO];refine wW 52 24 rfl w.heap.size zPc (y.cells hh).toArray rfl rfl P9 rfl rfl (Pk.one y hh) fun w10 hw10 hr10 => ?_
       have E10 := hr10.boxed (by simp) E9
       have B10 := B9.trans (hr10.below B9.size (by simp))
       have hlw := hp4.out
       have G10 := G9.keepW hr10 (by simp; omega)
       have X10 := X9.keepW hr10 (by simp; omega)
       obtain ⟨⟨a9, n9, c9, K9, hr9, -, -⟩, -, -⟩ := R9
       have hn9 : Hid (r2.length = n9) := hid (by have := hr9.len; rwa [bs_len] at this)
       have K10 := K9.keepW hr10 (by simp; omega)
       have HC10 : ∀ k, 4 <= k -> k <= 11 -> LiAt b k w10 := fun k h4 h11 => by
        have x := HC9 k h4 h11
        exact LiB.wrote x hr10 (by simpa using box_pk P9 x.fl) (by simpa using box_pk P9 x.has) (by simpa using box_pk P9 x.may) (by simpa using box_pk P9 x.wr) (by simpa using box_pk P9 x.rd)
       refine hK _ _ ⟨⟨fun _ => G10, fun _ => X10, fun _ => xc.out _ B10, trivial⟩, ?_⟩
       clear hK K;try simp only [PT]
       refine dQ (hKQ.out _ _ _ ?_)
       clear hKQ KQ;obtain ⟨z, hz⟩ : ∃ z : Pk, { y with kind := (nn : Int) } = z := ⟨_, rfl⟩
       rw [hz] at hps hsm
       have hzk : z.kind = (nn : Int) := by rw [<- hz]
       have hZ9 : Hid (∀ M, (∀ b ∈ M, b < WD.heap.size) -> PkN w9 z hh M) := hid (by rw [<- hz]; exact fun M hM => ⟨(hN9 M hM).lw, (hN9 M hM).lc, (hN9 M hM).lf⟩)
       have hset : (y.cells hh).toArray.setIfInBounds 0 (.int .i64 (nn : Int)) = (z.cells hh).toArray := by rw [<- hz]; rfl
       obtain ⟨g1', g2', g3', g4', g5', hv', hfl⟩ := pk_fl b nn hnn1
       rw [HV.out] at hv'
       simp only [Value.agg.injEq, Array.mk.injEq, List.cons.injEq, and_true] at hv'
       obtain ⟨rfl, rfl, rfl, rfl, -⟩ := hv'
       have E10' := hid E10;have hsz24 : Hid ((z.cells hh).toArray.size = 24) := hid rfl
       have CK := hid (fun W (hin : z.In W hh) => pk_Check z hh hsm.out.1 ⟨hsm.out.1.wants, hsm.out.1.filters⟩ W hin)
       obtain ⟨pc, hpc⟩ : ∃ pc, (z.cells hh).toArray = pc := ⟨_, rfl⟩
       rw [hpc] at hset hsz24 CK
       have ic : Hid ((Tryz.prog.info? 52).map (·.size) = some pc.size) := hid (by rw [hsz24.out]; kernel_rfl)
       have B10' := hid B10;have G10' := hid G10;have X10' := hid X10;have K10' := hid K10;have HC10' := hid HC10;have hr10' := hid hr10;clear E10 B10 G10 X10 K10 HC10 hr10 P9 E9 B9 G9 X9 HC9 K9 hr9 hN9 hz G8 X8 c8 R8 P8 E8 B8 HC8 hw9;go_upto_region 12 with (refine wpList_store_cell rfl 45 52 _ _ rfl (fun w => by kernel_rfl) w.heap.size 0 _ _ rfl rfl hw10 (by exact (by decide : 0 < 24)) rfl rfl ?_; intro w11 hp11 hw11)
       replace hp11 : Blk w11 w.heap.size ((y.cells hh).toArray.setIfInBounds 0 (.int .i64 (nn : Int))) 52 := hp11
       rw [hset] at hp11
       have HT : PtI w pc z hh w4.heap.size w6.heap.size q #[g1, g2, g3, g4, fnV ff fc] b n9 w11 := by
        have hw2 := hr10'.out.trans hw11
        have hp4' := hp4.out
        exact ⟨B10'.out.trans (hw11.below B10'.out.size (by simp)), hp11, hw11.boxed (by simp) E10'.out, G10'.out.keepW hw11 (by simp; omega), X10'.out.keepW hw11 (by simp; omega), ⟨a9, c9, K10'.out.keepW hw11 (by simp; omega)⟩,
         fun k h4 h11 => by
          obtain ⟨b0, b1, b2, b3, b4⟩ := hnb9.out k h4 h11
          exact LiB.wrote (HC10'.out k h4 h11) hw11 (by simpa using b0) (by simpa using b1) (by simpa using b2) (by simpa using b3) (by simpa using b4),
         fun M hM => (hZ9.out (w.heap.size :: M) (fun b hb => by
          have := hwd.out
          rcases List.mem_cons.1 hb with rfl | hb
          ·omega
          ·have := hM b hb; omega)).step hw2 (fun x hx => .inl (by simp at hx; simp [hx])) (fun x hx => .inl (List.mem_cons_of_mem _ hx))⟩
       replace HT := hid HT;have k2 : w11.cell? ⟨w4.heap.size, 2, none⟩ = some g3 := HT.out.shp.cell 2
       clear hp11 hw11 hw10 E10' B10' G10' X10' K10' HC10' hr10' hset;obtain ⟨gz, hgz⟩ : ∃ g : Int, ((flagN z : Nat) : Int) = g := ⟨_, rfl⟩
       obtain ⟨nb, hnb, hgnb, hfl2⟩ : ∃ nb : Bool, (∀ W, (binOp .neq 146 g3 .nilFunc).run Tryz.prog W = .ok (.bool nb) W) /\ (∀ s1 s2 W, (eqGuard .neq 146 s1 s2 g3 .nilFunc).run Tryz.prog W = .ok () W) /\ ((nb = false /\ gz = 0) \/ (nb = true /\ ∃ f c, g3 = fnV f c /\ fnC f /\ ∀ W, ShK b nn W -> Calls Tryz.prog f (#[.agg pc] ++ c) W fun e w' => e = .returned (.int .i64 gz) /\ Below W.heap.size W w')) := by
        rcases hfl with ⟨rfl, hf0⟩ | ⟨f3, c3, rfl, hff3, hfc3⟩
        ·exact ⟨false, nil_fl, gnil_fl, .inl ⟨rfl, by rw [<- hgz, hf0 z hzk]; rfl⟩⟩
        ·refine ⟨true, fun W => func_fl f3 c3 W, fun s1 s2 W => gfunc_fl f3 c3 s1 s2 W, .inr ⟨rfl, f3, c3, rfl, hff3, fun W hsh => ?_⟩⟩
         have := hfc3 W z hh hzk (fun h3 => by
          have h9 := hsm.out.2 h3
          exact h9) hsh
         rw [hpc, hgz] at this
         exact this
       have hfl2 := hid hfl2;have hgz := hid hgz;clear hfl;replace hpc := hid hpc;go_upto_if 71 with fail
       try simp only [PT]
       have hnb := hid hnb;have hgnb := hid hgnb;go_cut [10] from 76 (fun s10 wx => s10 = .int .i64 gz /\ Hid (PtI w pc z hh w4.heap.size w6.heap.size q #[g1, g2, g3, g4, fnV ff fc] b n9 wx))
       case first =>
        have hnb := hnb.out
        have hgnb := hgnb.out
        rcases hfl2.out with ⟨rfl, hf0⟩ | ⟨rfl, f3, c3, rfl, hff3, hfc3⟩
        ·subst hf0
         go_wp2_with fail
         go_meet
         case rel => exact ⟨rfl, HT⟩
        ·unfold fnV at k2
         unfold fnC at hff3
         have CF := hid (hfc3 w11 (fun h4 h11 => HT.out.box _ h4 h11))
         have ta := HT.out.pk
         have tok := hid trivial;clear hfl2 hfc3 hnb hgnb;go_wp2_with (clear tok; refine wL 52 rfl rfl ta Tryz.underlying52 ?_ rfl rfl ic.out)
         refine CF.out.mono ?_
         rintro e w12 ⟨rfl, hb12⟩
         have HT12 := hid (HT.out.step hb12)
         clear hb12 ta k2;go_wp2_with fail
         go_meet
         case rel => exact ⟨rfl, HT12⟩
       case rest =>
        obtain ⟨rfl, HK⟩ := hcut
        obtain ⟨wa, hwa⟩ : ∃ W, wc = W := ⟨_, rfl⟩
        rw [hwa] at HK ⊢
        clear hwa k2 hnb hgnb hfl2 HT hff;obtain ⟨la, lc, hleft⟩ := HK.out.left
        have CL := hid (wire_LeftB hleft)
        have k6 : wa.cell? ⟨w6.heap.size, 0, none⟩ = some (.pointer (some ⟨q, 0, none⟩)) := HK.out.rdr.cell 0
        have kx : wa.cell? ⟨bb, off, none⟩ = some (.int .u8 xz) := xc.out _ HK.out.below
        have hbits := hbits'.out
        clear hleft;by_cases h9 : n9 = 0
        ·have d9 : ((n9 : Int) == 0) = true := by rw [h9]; rfl
         by_cases hfe : gz = fz
         ·have dfe : (gz == fz) = true := by simpa using hfe
          have CKx := CK.out wa (HK.out.rows [] (by simp)).inn
          have CKx := hid CKx;have ta := HK.out.pk
          have tok := hid trivial
          go_wp2_with (first
           | (go_at_call 25; refine CL.out.mono ?_; rintro e w12 ⟨rfl, rfl⟩)
           | (clear tok; refine wLG 52 rfl rfl ta Tryz.underlying52 rfl ?_ ic.out))
          refine CKx.out.mono ?_
          rintro e w13 ⟨cz, rfl, hcz, hb13⟩
          have HK13 := hid (HK.out.step hb13)
          have hcz := hid hcz;clear hb13 ta k6 kx CL CKx;by_cases hc0 : cz = 0
          ·have dc : (cz == 0) = true := by simpa using hc0
           have hone := hid (show ∀ v ∈ pc.toList, v.oneCell' = true by rw [<- hpc.out]; exact Pk.one z hh)
           have hyz : Hid (parsePk s = some z) := hid (by
            rw [hps.out, if_pos ⟨List.eq_nil_of_length_eq_zero (by rw [hn9.out]; exact h9), by have := hgz.out; have := hfz.out; omega, hcz.out.1 hc0⟩])
           have tb := HK13.out.pk
           clear hcz
           go_wp2_with (first
            | (go_at_call 95; refine (CM.out _ _).mono ?_; rintro e w14 ⟨rfl, rfl⟩)
            | (refine wL 52 rfl rfl tb Tryz.underlying52 ?_ rfl rfl ic.out)
            | (refine wS 52 24 rfl w.heap.size pc pc rfl rfl tb hsz24.out hsz24.out hone.out ?_; intro w14 hw14 hr14; have E14 := hr14.boxed (by simp) HK13.out.er; have k14 := E14.cell; have f14 := E14.frozen))
           have hs15 : Wrote [w.heap.size + 1] w14 (w14.setCell ⟨w.heap.size + 1, 0, none⟩ (.int .i64 0)) := Wrote.setCell w14 _ (by simp) _
           have P15 := hw14.keepW hs15 (by simp)
           have E15 := E14.set (.int .i64 0)
           have B14 := HK13.out.below.trans (hr14.below HK13.out.below.size (by simp))
           have B15 := B14.trans (hs15.below B14.size (by simp))
           have hall : Wrote [w.heap.size, w.heap.size + 1] w13 (w14.setCell ⟨w.heap.size + 1, 0, none⟩ (.int .i64 0)) := (hr14.sub (by simp)).trans (hs15.sub (by simp))
           obtain ⟨w15, hw15⟩ : ∃ W, w14.setCell ⟨w.heap.size + 1, 0, none⟩ (.int .i64 0) = W := ⟨_, rfl⟩
           rw [hw15] at P15 E15 B15 hall ⊢
           refine leaves_cons (f := 94) (args := #[.pointer (some ⟨w.heap.size, 0, none⟩), .pointer (some ⟨w.heap.size + 1, 0, none⟩)]) (by simp) (by simp [go_sem]) ?_
           refine (pk_quiet _ _ w15).mono ?_
           rintro e u' w16 ⟨rfl, rfl, rfl⟩
           simp only [Leaves, settle, List.dropWhile]
           have k16 := E15.cell
           have f16 := run_loadVar_blk P15 52 Tryz.underlying52 rfl ic.out
           refine ⟨_, results_cc (v := .agg pc) (x := .int .i64 0) Tryz.results57 rfl rfl f16 (by simp [go_sem, k16, loadVar]), ?_⟩
           refine ⟨B15, z, hh, 0, by rw [hpc.out], .inl ⟨rfl, hyz.out⟩, fun M hM => ?_⟩
           exact (HK13.out.rows (w.heap.size :: (w.heap.size + 1) :: M) (fun y hy => by
            rcases List.mem_cons.1 hy with rfl | hy
            ·omega
            rcases List.mem_cons.1 hy with rfl | hy
            ·omega
            ·have := hM y hy; omega)).step hall (fun x hx => .inl (by simp at hx; rcases hx with rfl | rfl <;> simp)) (fun x hx => .inl (List.mem_cons_of_mem _ (List.mem_cons_of_mem _ hx)))
          ·have dc : (cz == 0) = false := by simpa using hc0
           have hno : Hid (parsePk s = none) := hid (by rw [hps.out, if_neg (fun h => hc0 (hcz.out.2 h.2.2))])
           clear hcz;go_wp2_with (go_at_call 95; refine (CM.out _ _).mono ?_; rintro e w14 ⟨rfl, rfl⟩)
           refine leaves_cons (f := 94) (args := #[.pointer (some ⟨w.heap.size, 0, none⟩), .pointer (some ⟨w.heap.size + 1, 0, none⟩)]) (by simp) (by simp [go_sem]) ?_
           refine (pk_catch _ _ pc 0 w13 hsz24.out HK13.out.pk HK13.out.er (by omega)).mono ?_
           rintro e u' w9 ⟨rfl, rfl, hp9, he9, hw9⟩
           simp only [Leaves, settle, List.dropWhile]
           have k9 := he9.cell
           have f9 := run_loadVar_blk hp9 52 Tryz.underlying52 rfl (by kernel_rfl)
           refine ⟨_, results_cc (v := .agg zPc) (x := .int .i64 260) Tryz.results57 rfl rfl f9 (by simp [go_sem, k9, loadVar]), ?_⟩
           exact PsA.no (HK13.out.below.trans (hw9.below HK13.out.below.size (by simp))) hno.out
         ·have dfe : (gz == fz) = false := by simpa using hfe
          have hno : Hid (parsePk s = none) := hid (by rw [hps.out, if_neg (fun h => hfe (by have := hgz.out; have := hfz.out; have := h.2.1; omega))])
          go_wp2_with (first
           | (go_at_call 25; refine CL.out.mono ?_; rintro e w12 ⟨rfl, rfl⟩)
           | (go_at_call 95; refine (CM.out _ _).mono ?_; rintro e w14 ⟨rfl, rfl⟩))
          refine leaves_cons (f := 94) (args := #[.pointer (some ⟨w.heap.size, 0, none⟩), .pointer (some ⟨w.heap.size + 1, 0, none⟩)]) (by simp) (by simp [go_sem]) ?_
          refine (pk_catch _ _ pc 0 wa hsz24.out HK.out.pk HK.out.er (by omega)).mono ?_
          rintro e u' w9 ⟨rfl, rfl, hp9, he9, hw9⟩
          simp only [Leaves, settle, List.dropWhile]
          have k9 := he9.cell
          have f9 := run_loadVar_blk hp9 52 Tryz.underlying52 rfl (by kernel_rfl)
          refine ⟨_, results_cc (v := .agg zPc) (x := .int .i64 260) Tryz.results57 rfl rfl f9 (by simp [go_sem, k9, loadVar]), ?_⟩
          exact PsA.no (HK.out.below.trans (hw9.below HK.out.below.size (by simp))) hno.out
        ·have d9 : ((n9 : Int) == 0) = false := by simpa using h9
         have hno : Hid (parsePk s = none) := hid (by rw [hps.out, if_neg (fun h => h9 (by rw [<- hn9.out, h.1]; rfl))])
         go_wp2_with (first
          | (go_at_call 25; refine CL.out.mono ?_; rintro e w12 ⟨rfl, rfl⟩)
          | (go_at_call 95; refine (CM.out _ _).mono ?_; rintro e w14 ⟨rfl, rfl⟩))
         refine leaves_cons (f := 94) (args := #[.pointer (some ⟨w.heap.size, 0, none⟩), .pointer (some ⟨w.heap.size + 1, 0, none⟩)]) (by simp) (by simp [go_sem]) ?_
         refine (pk_catch _ _ pc 0 wa hsz24.out HK.out.pk HK.out.er (by omega)).mono ?_
         rintro e u' w9 ⟨rfl, rfl, hp9, he9, hw9⟩
         simp only [Leaves, settle, List.dropWhile]
         have k9 := he9.cell
         have f9 := run_loadVar_blk hp9 52 Tryz.underlying52 rfl (by kernel_rfl)
         refine ⟨_, results_cc (v := .agg zPc) (x := .int .i64 260) Tryz.results57 rfl rfl f9 (by simp [go_sem, k9, loadVar]), ?_⟩
         exact PsA.no (HK.out.below.trans (hw9.below HK.out.below.size (by simp))) hno.out
    ·have hno : Hid (parsePk s = none) := hid (by rw [hpp.out, if_neg (fun h => h3 (by have := hrl.out; omega))])
     have hb0 := hrb.1
     have hb4 := hrb.2
     have d3 : ((n : Int) - 1 - rs == rn) = false := by simpa using h3
     have hm1 := hid hm1;clear hrb hrz hm2 hm3 hm4 hm5 hsz hsz4 h3;go_wp2_with (go_at_call 95; refine (CM.out _ _).mono ?_; rintro e w4 ⟨rfl, rfl⟩)
     refine leaves_cons (f := 94) (args := #[.pointer (some ⟨w.heap.size, 0, none⟩), .pointer (some ⟨w.heap.size + 1, 0, none⟩)]) (by simp) (by simp [go_sem]) ?_
     refine (pk_catch _ _ zPc 0 w3 rfl P3.out E3.out (by omega)).mono ?_
     rintro e u' w9 ⟨rfl, rfl, hp9, he9, hw9⟩
     simp only [Leaves, settle, List.dropWhile]
     have k9 := he9.cell
     have f9 := run_loadVar_blk hp9 52 Tryz.underlying52 rfl (by kernel_rfl)
     refine ⟨_, results_cc (v := .agg zPc) (x := .int .i64 260) Tryz.results57 rfl rfl f9 (by simp [go_sem, k9, loadVar]), ?_⟩
     exact PsA.no (B3.out.trans (hw9.below B3.out.size (by simp))) hno.out
  ·have hno : Hid (parsePk s = none) := hid (by rw [hpp.out, if_neg (fun h => h0 h.1)])
   have d0 : (re == 0) = false := by simpa using h0
   go_wp2_with (go_at_call 95; refine (CM.out _ _).mono ?_; rintro e w4 ⟨rfl, rfl⟩)
   refine leaves_cons (f := 94) (args := #[.pointer (some ⟨w.heap.size, 0, none⟩), .pointer (some ⟨w.heap.size + 1, 0, none⟩)]) (by simp) (by simp [go_sem]) ?_
   refine (pk_catch _ _ zPc re w3 rfl P3.out E3.out (by omega)).mono ?_
   rintro e u' w9 ⟨rfl, rfl, hp9, he9, hw9⟩
   simp only [Leaves, settle, List.dropWhile]
   have k9 := he9.cell
   have f9 := run_loadVar_blk hp9 52 Tryz.underlying52 rfl (by kernel_rfl)
   refine ⟨_, results_cc (v := .agg zPc) (x := .int .i64 260) Tryz.results57 rfl rfl f9 (by simp [go_sem, k9, loadVar]), ?_⟩
   exact PsA.no (B3.out.trans (hw9.below B3.out.size (by simp))) hno.out
 ·have d : decide (2 <= (n : Int)) = false := decide_eq_false (by omega)
  have hno : Hid (parsePk s = none) := hid (by
   have := HL.out
   match s, this with
   | [], _ => rfl
   | [x], _ => rfl
   | x :: y :: r, h => simp at h; omega)
  go_enter_defers Tryz.func57, Tryz.ntmps57
  go_wp2_with (go_at_call 95; refine (CM.out _ _).mono ?_; rintro e w2 ⟨rfl, rfl⟩)
  refine leaves_cons (f := 94) (args := #[.pointer (some ⟨w.heap.size, 0, none⟩), .pointer (some ⟨w.heap.size + 1, 0, none⟩)]) (by simp) (by simp [go_sem]) ?_
  refine (pk_catch _ _ zPc 0 W1 rfl P1.out E1.out (by omega)).mono ?_
  rintro e u' w9 ⟨rfl, rfl, hp9, he9, hw9⟩
  simp only [Leaves, settle, List.dropWhile]
  have k9 := he9.cell
  have f9 := run_loadVar_blk hp9 52 Tryz.underlying52 rfl (by kernel_rfl)
  refine ⟨_, results_cc (v := .agg zPc) (x := .int .i64 260) Tryz.results57 rfl rfl f9 (by simp [go_sem, k9, loadVar]), ?_⟩
  exact PsA.no (B1.out.trans (hw9.below B1.out.size (by simp))) hno.out
theorem parsePk_ok : ParsePkOK pkC := fun W a n c s hrow hn => (pk_Parse a n c s W hrow hn).mono fun e w' h => ⟨h.below, h.out⟩
end
end Go.Proofs.YtkghejaimhoboaaGreatDoor
