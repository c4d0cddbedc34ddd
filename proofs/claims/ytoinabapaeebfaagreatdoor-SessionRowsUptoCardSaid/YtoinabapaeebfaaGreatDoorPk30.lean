/- Parts of the proof of SessionRows: contracts of functions that it reaches, and plain lemmas. No condition of their own. -/
import Derived.Test.YtoinabapaeebfaaGreatDoorPk24
import Derived.Test.YtoinabapaeebfaaGreatDoorPk19
import Derived.Test.YtoinabapaeebfaaGreatDoorPk29
set_option linter.unusedSimpArgs false
set_option linter.unusedVariables false
set_option maxRecDepth 100000
set_option maxHeartbeats 8000000
namespace Go.Proofs.YtoinabapaeebfaaGreatDoor
open Go.RowKit Go.Shelf
section
theorem zS_one : ∀ v ∈ zS.toList, v.oneCell' = true := by simp [zS, Value.oneCell']
structure R3 (w W : World) (Z : Array Value) (n : Nat) : Prop where
 g : Blk W w.heap.size Z 97
 r : ∃ rs, Blk W (w.heap.size + 1) rs 97 /\ rs.size = 22
 d : ∃ ds, Blk W (w.heap.size + 1 + n) ds 53 /\ ds.size = 2
 below : Below w.heap.size w W
theorem R3.bel {w W W' : World} {Z : Array Value} {n : Nat} (h : R3 w W Z n) (hb : Below W.heap.size W W') : R3 w W' Z n := by
 obtain ⟨g, ⟨rs, r1, r2⟩, ⟨ds, d1, d2⟩, b⟩ := h
 exact ⟨g.below hb, ⟨rs, r1.below hb, r2⟩, ⟨ds, d1.below hb, d2⟩, b.trans (hb.mono b.size)⟩
theorem R3.stored {w W W' : World} {Z : Array Value} {n : Nat} (h : R3 w W Z n) (hn : n ≠ 0) {Z' : Array Value} (hz : Z'.size = 22) (hb : Blk W' (w.heap.size + 1) Z' 97) (hw : Wrote [w.heap.size + 1] W W') : R3 w W' Z n := by
 obtain ⟨g, _, ⟨ds, d1, d2⟩, b⟩ := h
 exact ⟨g.wrote hw (by simp), ⟨Z', hb, hz⟩, ⟨ds, d1.wrote hw (by simp; omega), d2⟩, below_wrote b hw (by simp)⟩
theorem R3.start (w : World) (Z Z1 d1 : Array Value) (hz : Z1.size = 22) (hd : d1.size = 2) : R3 w (((w.alloc (.cells Z 97)).alloc (.cells Z1 97)).alloc (.cells d1 53)) Z 1 := by
 refine ⟨((Blk.new w _ _).alloc _).alloc _, ⟨Z1, (Blk.new_at _ _ _ _ (by simp)).alloc _, hz⟩, ⟨d1, Blk.new_at _ _ _ _ (by simp), hd⟩, ?_⟩
 exact (((Below.refl _ w).alloc (Nat.le_refl _) _).alloc (by simp) _).alloc (by simp; omega) _
theorem results_cctt {P : Program} {w : World} {fn : Func} {a b c d : Tmp} {t u : TypeId} (h : fn.results = #[.cell a t, .cell b u, .tmp c, .tmp d]) {tmps : Array Value} {p q : Addr} (hp : tmps.getD a undef = .pointer (some p)) (hq : tmps.getD b undef = .pointer (some q)) {v x y z : Value} (hl : (loadVar t p).run P w = .ok v w) (hu : (loadVar u q).run P w = .ok x w) (hy : tmps.getD c undef = y) (hz : tmps.getD d undef = z) : (results fn tmps).run P w = .ok (.tuple #[v, x, y, z]) w := by
 rw [Array.getD_eq_getD_getElem?] at hp hq hy hz
 simp [results, h, hp, hq, hy, hz, asAddr, hl, hu]
theorem results_ctct {P : Program} {w : World} {fn : Func} {a b c d : Tmp} {t u : TypeId} (h : fn.results = #[.cell a t, .tmp b, .cell c u, .tmp d]) {tmps : Array Value} {p q : Addr} (hp : tmps.getD a undef = .pointer (some p)) (hq : tmps.getD c undef = .pointer (some q)) {v x y z : Value} (hl : (loadVar t p).run P w = .ok v w) (hu : (loadVar u q).run P w = .ok x w) (hy : tmps.getD b undef = y) (hz : tmps.getD d undef = z) : (results fn tmps).run P w = .ok (.tuple #[v, y, x, z]) w := by
 rw [Array.getD_eq_getD_getElem?] at hp hq hy hz
 simp [results, h, hp, hq, hy, hz, asAddr, hl, hu]
theorem r23_Want (f : List UInt8) (q : Int) (w : World) (hf : f.length <= 1000000) :
  Calls Tryz.prog 73 #[.agg zS, .string ⟨f.toArray⟩, .int .i64 q] w fun e w' => ∃ no, e = .returned (.tuple #[.agg zS, .agg didZ, .int .i64 no]) /\ Below w.heap.size w w' := by
 have CF := hid fun W => r13_Filter f W hf
 have CN := hid fun W => r23_find f W
 rw [show zS = zS from rfl] at CN
 have hzs : zS.size = 22 := rfl
 have hzo := zS_one
 have hz13 : zS[13]? = some (.slice none 0 0) := rfl
 have hz3 : zS[3]? = some (.int .i64 0) := rfl
 have hz2 : zS[2]? = some (.int .i64 0) := rfl
 have hz12 : zS[12]? = some (.slice none 0 0) := rfl
 have hz15 : zS[15]? = some (.bool false) := rfl
 obtain ⟨Z, hZ⟩ : ∃ Z, zS = Z := ⟨_, rfl⟩
 rw [hZ] at hzs hzo hz13 hz3 hz2 hz12 hz15 ⊢
 rw [hZ] at CN
 cases hm : filterR f with
 | false =>
  rw [hm] at CF
  go_enter Tryz.func73, Tryz.ntmps73
  go_wp2_with fail
  obtain ⟨W0, hW0⟩ : ∃ W0, W0 = (((w.alloc (.cells Z 97)).alloc (.cells zS 97)).alloc (.cells didZ 53)) := ⟨_, rfl⟩
  have R0 := hid (R3.start w Z zS didZ rfl rfl)
  rw [<- hW0] at R0
  unfold zS didZ at hW0
  rw [<- hW0]
  clear hW0;refine (CF.out _).mono ?_
  rintro e w1 ⟨rfl, hb1⟩
  have RX := hid (R0.out.bel hb1)
  obtain ⟨rs, r1, r2⟩ := RX.out.r
  go_wp2_with (first
   | (refine wpList_load_blk rfl 97 _ rfl w.heap.size Z rfl RX.out.g Tryz.underlying97 rfl (by rw [hzs]; kernel_rfl) ?_)
   | (refine wS 97 22 rfl (w.heap.size + 1) rs Z rfl rfl r1 hzs r2 hzo ?_; intro w5 hb5 hw5; have RS := RX.out.stored (by decide) hzs hb5 hw5; obtain ⟨-, -, ⟨ds, d1, d2⟩, bs⟩ := RS)
   | (refine wS 53 2 rfl (w.heap.size + 1 + 1) ds didZ rfl rfl d1 rfl d2 (by simp [didZ, Value.oneCell']) ?_; intro w6 hb6 hw6; have l1 := run_loadVar_blk (P := Tryz.prog) (hb5.wrote hw6 (by simp)) 97 Tryz.underlying97 rfl (by rw [hzs]; kernel_rfl); have l2 := run_loadVar_blk (P := Tryz.prog) hb6 53 Tryz.underlying53 rfl (by kernel_rfl); have bb := below_wrote bs hw6 (by simp; omega)))
  refine bodyPost_ret (results_cct Tryz.results73 rfl rfl l1 l2 rfl) rfl ?_
  exact ⟨2, rfl, bb⟩
 | true =>
  rw [hm] at CF
  by_cases h0 : q < 0
  ·have e0 : decide (q < 0) = true := decide_eq_true h0
   go_enter Tryz.func73, Tryz.ntmps73
   go_wp2_with fail
   obtain ⟨W0, hW0⟩ : ∃ W0, W0 = (((w.alloc (.cells Z 97)).alloc (.cells zS 97)).alloc (.cells didZ 53)) := ⟨_, rfl⟩
   have R0 := hid (R3.start w Z zS didZ rfl rfl)
   rw [<- hW0] at R0
   unfold zS didZ at hW0
   rw [<- hW0]
   clear hW0;refine (CF.out _).mono ?_
   rintro e w1 ⟨rfl, hb1⟩
   have RX := hid (R0.out.bel hb1)
   obtain ⟨rs, r1, r2⟩ := RX.out.r
   go_wp2_with (first
    | (refine wpList_load_blk rfl 97 _ rfl w.heap.size Z rfl RX.out.g Tryz.underlying97 rfl (by rw [hzs]; kernel_rfl) ?_)
    | (refine wS 97 22 rfl (w.heap.size + 1) rs Z rfl rfl r1 hzs r2 hzo ?_; intro w5 hb5 hw5; have RS := RX.out.stored (by decide) hzs hb5 hw5; obtain ⟨-, -, ⟨ds, d1, d2⟩, bs⟩ := RS)
    | (refine wS 53 2 rfl (w.heap.size + 1 + 1) ds didZ rfl rfl d1 rfl d2 (by simp [didZ, Value.oneCell']) ?_; intro w6 hb6 hw6; have l1 := run_loadVar_blk (P := Tryz.prog) (hb5.wrote hw6 (by simp)) 97 Tryz.underlying97 rfl (by rw [hzs]; kernel_rfl); have l2 := run_loadVar_blk (P := Tryz.prog) hb6 53 Tryz.underlying53 rfl (by kernel_rfl); have bb := below_wrote bs hw6 (by simp; omega)))
   refine bodyPost_ret (results_cct Tryz.results73 rfl rfl l1 l2 rfl) rfl ?_
   exact ⟨2, rfl, bb⟩
  have e0 : decide (q < 0) = false := decide_eq_false h0
  by_cases h1 : 2 < q
  ·have e1 : decide (2 < q) = true := decide_eq_true h1
   go_enter Tryz.func73, Tryz.ntmps73
   go_wp2_with fail
   obtain ⟨W0, hW0⟩ : ∃ W0, W0 = (((w.alloc (.cells Z 97)).alloc (.cells zS 97)).alloc (.cells didZ 53)) := ⟨_, rfl⟩
   have R0 := hid (R3.start w Z zS didZ rfl rfl)
   rw [<- hW0] at R0
   unfold zS didZ at hW0
   rw [<- hW0]
   clear hW0;refine (CF.out _).mono ?_
   rintro e w1 ⟨rfl, hb1⟩
   have RX := hid (R0.out.bel hb1)
   obtain ⟨rs, r1, r2⟩ := RX.out.r
   go_wp2_with (first
    | (refine wpList_load_blk rfl 97 _ rfl w.heap.size Z rfl RX.out.g Tryz.underlying97 rfl (by rw [hzs]; kernel_rfl) ?_)
    | (refine wS 97 22 rfl (w.heap.size + 1) rs Z rfl rfl r1 hzs r2 hzo ?_; intro w5 hb5 hw5; have RS := RX.out.stored (by decide) hzs hb5 hw5; obtain ⟨-, -, ⟨ds, d1, d2⟩, bs⟩ := RS)
    | (refine wS 53 2 rfl (w.heap.size + 1 + 1) ds didZ rfl rfl d1 rfl d2 (by simp [didZ, Value.oneCell']) ?_; intro w6 hb6 hw6; have l1 := run_loadVar_blk (P := Tryz.prog) (hb5.wrote hw6 (by simp)) 97 Tryz.underlying97 rfl (by rw [hzs]; kernel_rfl); have l2 := run_loadVar_blk (P := Tryz.prog) hb6 53 Tryz.underlying53 rfl (by kernel_rfl); have bb := below_wrote bs hw6 (by simp; omega)))
   refine bodyPost_ret (results_cct Tryz.results73 rfl rfl l1 l2 rfl) rfl ?_
   exact ⟨2, rfl, bb⟩
  have e1 : decide (2 < q) = false := decide_eq_false h1
  go_enter Tryz.func73, Tryz.ntmps73
  go_wp2_with fail
  obtain ⟨W0, hW0⟩ : ∃ W0, W0 = (((w.alloc (.cells Z 97)).alloc (.cells zS 97)).alloc (.cells didZ 53)) := ⟨_, rfl⟩
  have R0 := hid (R3.start w Z zS didZ rfl rfl)
  rw [<- hW0] at R0
  unfold zS didZ at hW0
  rw [<- hW0]
  clear hW0;refine (CF.out _).mono ?_
  rintro e w1 ⟨rfl, hb1⟩
  have R1 := hid (R0.out.bel hb1)
  have G1 := hid R1.out.g;go_wp2_with (refine wpList_load_blk rfl 97 _ rfl w.heap.size Z rfl G1.out Tryz.underlying97 rfl (by rw [hzs]; kernel_rfl) ?_)
  refine (CN.out _).mono ?_
  rintro e w2 ⟨rfl, hb2⟩
  have RX := hid (R1.out.bel hb2)
  obtain ⟨rs, r1, r2⟩ := RX.out.r
  have k13 : w2.cell? ⟨w.heap.size, 13, none⟩ = some (.slice none 0 0) := (RX.out.g.cell 13).trans hz13
  have k3 : w2.cell? ⟨w.heap.size, 3, none⟩ = some (.int .i64 0) := (RX.out.g.cell 3).trans hz3
  go_wp2_with (first
   | (refine wpList_load_blk rfl 97 _ rfl w.heap.size Z rfl RX.out.g Tryz.underlying97 rfl (by rw [hzs]; kernel_rfl) ?_)
   | (refine wS 97 22 rfl (w.heap.size + 1) rs Z rfl rfl r1 hzs r2 hzo ?_; intro w5 hb5 hw5; have RS := RX.out.stored (by decide) hzs hb5 hw5; obtain ⟨-, -, ⟨ds, d1, d2⟩, bs⟩ := RS)
   | (refine wS 53 2 rfl (w.heap.size + 1 + 1) ds didZ rfl rfl d1 rfl d2 (by simp [didZ, Value.oneCell']) ?_; intro w6 hb6 hw6; have l1 := run_loadVar_blk (P := Tryz.prog) (hb5.wrote hw6 (by simp)) 97 Tryz.underlying97 rfl (by rw [hzs]; kernel_rfl); have l2 := run_loadVar_blk (P := Tryz.prog) hb6 53 Tryz.underlying53 rfl (by kernel_rfl); have bb := below_wrote bs hw6 (by simp; omega)))
  refine bodyPost_ret (results_cct Tryz.results73 rfl rfl l1 l2 rfl) rfl ?_
  exact ⟨330, rfl, bb⟩
end
section
theorem r23_Unwant (f : List UInt8) (w : World) (hf : f.length <= 1000000) :
  Calls Tryz.prog 74 #[.agg zS, .string ⟨f.toArray⟩] w fun e w' => ∃ no, e = .returned (.tuple #[.agg zS, .agg didZ, .bool false, .int .i64 no]) /\ Below w.heap.size w w' := by
 have CF := hid fun W => r13_Filter f W hf
 have CN := hid fun W => r23_find f W
 have hzs : zS.size = 22 := rfl
 have hzo := zS_one
 have hz13 : zS[13]? = some (.slice none 0 0) := rfl
 have hz3 : zS[3]? = some (.int .i64 0) := rfl
 have hz2 : zS[2]? = some (.int .i64 0) := rfl
 have hz12 : zS[12]? = some (.slice none 0 0) := rfl
 have hz15 : zS[15]? = some (.bool false) := rfl
 obtain ⟨Z, hZ⟩ : ∃ Z, zS = Z := ⟨_, rfl⟩
 rw [hZ] at hzs hzo hz13 hz3 hz2 hz12 hz15 ⊢
 rw [hZ] at CN
 cases hm : filterR f with
 | false =>
  rw [hm] at CF
  go_enter Tryz.func74, Tryz.ntmps74
  go_wp2_with fail
  obtain ⟨W0, hW0⟩ : ∃ W0, W0 = (((w.alloc (.cells Z 97)).alloc (.cells zS 97)).alloc (.cells didZ 53)) := ⟨_, rfl⟩
  have R0 := hid (R3.start w Z zS didZ rfl rfl)
  rw [<- hW0] at R0
  unfold zS didZ at hW0
  rw [<- hW0]
  clear hW0;refine (CF.out _).mono ?_
  rintro e w1 ⟨rfl, hb1⟩
  have RX := hid (R0.out.bel hb1)
  obtain ⟨rs, r1, r2⟩ := RX.out.r
  go_wp2_with (first
   | (refine wpList_load_blk rfl 97 _ rfl w.heap.size Z rfl RX.out.g Tryz.underlying97 rfl (by rw [hzs]; kernel_rfl) ?_)
   | (refine wS 97 22 rfl (w.heap.size + 1) rs Z rfl rfl r1 hzs r2 hzo ?_; intro w5 hb5 hw5; have RS := RX.out.stored (by decide) hzs hb5 hw5; obtain ⟨-, -, ⟨ds, d1, d2⟩, bs⟩ := RS)
   | (refine wS 53 2 rfl (w.heap.size + 1 + 1) ds didZ rfl rfl d1 rfl d2 (by simp [didZ, Value.oneCell']) ?_; intro w6 hb6 hw6; have l1 := run_loadVar_blk (P := Tryz.prog) (hb5.wrote hw6 (by simp)) 97 Tryz.underlying97 rfl (by rw [hzs]; kernel_rfl); have l2 := run_loadVar_blk (P := Tryz.prog) hb6 53 Tryz.underlying53 rfl (by kernel_rfl); have bb := below_wrote bs hw6 (by simp; omega)))
  refine bodyPost_ret (results_cctt Tryz.results74 rfl rfl l1 l2 rfl rfl) rfl ?_
  exact ⟨2, rfl, bb⟩
 | true =>
  rw [hm] at CF
  go_enter Tryz.func74, Tryz.ntmps74
  go_wp2_with fail
  obtain ⟨W0, hW0⟩ : ∃ W0, W0 = (((w.alloc (.cells Z 97)).alloc (.cells zS 97)).alloc (.cells didZ 53)) := ⟨_, rfl⟩
  have R0 := hid (R3.start w Z zS didZ rfl rfl)
  rw [<- hW0] at R0
  unfold zS didZ at hW0
  rw [<- hW0]
  clear hW0;refine (CF.out _).mono ?_
  rintro e w1 ⟨rfl, hb1⟩
  have R1 := hid (R0.out.bel hb1)
  have G1 := hid R1.out.g;go_wp2_with (refine wpList_load_blk rfl 97 _ rfl w.heap.size Z rfl G1.out Tryz.underlying97 rfl (by rw [hzs]; kernel_rfl) ?_)
  refine (CN.out _).mono ?_
  rintro e w2 ⟨rfl, hb2⟩
  have RX := hid (R1.out.bel hb2)
  obtain ⟨rs, r1, r2⟩ := RX.out.r
  go_wp2_with (first
   | (refine wpList_load_blk rfl 97 _ rfl w.heap.size Z rfl RX.out.g Tryz.underlying97 rfl (by rw [hzs]; kernel_rfl) ?_)
   | (refine wS 97 22 rfl (w.heap.size + 1) rs Z rfl rfl r1 hzs r2 hzo ?_; intro w5 hb5 hw5; have RS := RX.out.stored (by decide) hzs hb5 hw5; obtain ⟨-, -, ⟨ds, d1, d2⟩, bs⟩ := RS)
   | (refine wS 53 2 rfl (w.heap.size + 1 + 1) ds didZ rfl rfl d1 rfl d2 (by simp [didZ, Value.oneCell']) ?_; intro w6 hb6 hw6; have l1 := run_loadVar_blk (P := Tryz.prog) (hb5.wrote hw6 (by simp)) 97 Tryz.underlying97 rfl (by rw [hzs]; kernel_rfl); have l2 := run_loadVar_blk (P := Tryz.prog) hb6 53 Tryz.underlying53 rfl (by kernel_rfl); have bb := below_wrote bs hw6 (by simp; omega)))
  refine bodyPost_ret (results_cctt Tryz.results74 rfl rfl l1 l2 rfl rfl) rfl ?_
  exact ⟨0, rfl, bb⟩
theorem set_same {Z : Array Value} {i : Nat} {v : Value} (h : Z[i]? = some v) : Z.setIfInBounds i v = Z := by
 apply Array.ext
 ·simp
 ·intro j h1 h2
  simp only [Array.size_setIfInBounds] at h1
  rw [Array.getElem_setIfInBounds]
  split
  ·rename_i he
   subst he;rw [Array.getElem?_eq_getElem h2] at h
   exact (Option.some.inj h).symm
  ·rfl
theorem R3.put {w W W' : World} {Z : Array Value} {n : Nat} (h : R3 w W Z n) (hn : n ≠ 0) {Z' : Array Value} (hb : Blk W' w.heap.size Z' 97) (hw : Wrote [w.heap.size] W W') : R3 w W' Z' n := by
 obtain ⟨g, ⟨rs, r1, r2⟩, ⟨ds, d1, d2⟩, b⟩ := h
 exact ⟨hb, ⟨rs, r1.wrote hw (by simp), r2⟩, ⟨ds, d1.wrote hw (by simp; omega), d2⟩, below_wrote b hw (by simp)⟩
theorem r23_Came (z : Int) (w : World) :
  Calls Tryz.prog 77 #[.agg zS, .int .i64 z] w fun e w' => ∃ no, e = .returned (.tuple #[.agg zS, .bool false, .agg didZ, .int .i64 no]) /\ Below w.heap.size w w' := by
 have CC := hid fun W => r21_Come z W
 have hzs : zS.size = 22 := rfl
 have hzo := zS_one
 have hz13 : zS[13]? = some (.slice none 0 0) := rfl
 have hz3 : zS[3]? = some (.int .i64 0) := rfl
 have hz2 : zS[2]? = some (.int .i64 0) := rfl
 have hz12 : zS[12]? = some (.slice none 0 0) := rfl
 have hz15 : zS[15]? = some (.bool false) := rfl
 obtain ⟨Z, hZ⟩ : ∃ Z, zS = Z := ⟨_, rfl⟩
 rw [hZ] at hzs hzo hz13 hz3 hz2 hz12 hz15 ⊢
 obtain ⟨W0, hW0⟩ : ∃ W0, W0 = (((w.alloc (.cells Z 97)).alloc (.cells zS 97)).alloc (.cells didZ 53)) := ⟨_, rfl⟩
 have R0 := hid (R3.start w Z zS didZ rfl rfl)
 rw [<- hW0] at R0
 have k12 : W0.cell? ⟨w.heap.size, 12, none⟩ = some (.slice none 0 0) := (R0.out.g.cell 12).trans hz12
 have k2 : W0.cell? ⟨w.heap.size, 2, none⟩ = some (.int .i64 0) := (R0.out.g.cell 2).trans hz2
 rw [hW0] at k12 k2
 unfold zS didZ at hW0 k12 k2
 go_enter Tryz.func77, Tryz.ntmps77
 go_wp2_with fail
 rw [<- hW0]
 clear hW0 k12 k2;refine (CC.out _).mono ?_
 rintro e w1 ⟨no, rfl, hb1⟩
 have R1 := hid (R0.out.bel hb1)
 have G1 := hid R1.out.g
 go_wp2_with (first
  | (refine wpList_store_cell rfl 95 97 _ _ rfl (fun w => by kernel_rfl) w.heap.size 12 Z (.slice none 0 0) rfl rfl G1.out (by rw [hzs]; decide) rfl rfl ?_; intro w2 hb2 hw2; rw [set_same hz12] at hb2; have R2 := hid (R1.out.put (by decide) hb2 hw2))
  | (refine wS 53 2 rfl w2.heap.size _ didZ rfl rfl (Blk.new w2 _ _) rfl rfl (by simp [didZ, Value.oneCell']) ?_; intro w3 hb3 hw3))
 have hs2 : w.heap.size + 1 + 1 < w2.heap.size := by obtain ⟨ds, d1, d2⟩ := R2.out.d; exact d1.lt
 have RX := hid (R2.out.bel (((Below.refl w2.heap.size w2).alloc (Nat.le_refl _) (.cells didZ 53)).trans (hw3.below (by simp) (by simp))))
 obtain ⟨rs, r1, r2⟩ := RX.out.r
 refine regionQ [(4, fun w' => Blk w' w.heap.size Z 97), (6, fun w' => Blk w' w2.heap.size didZ 53)] (by kernel_rfl) ⟨RX.out.g, hb3, trivial⟩ fun KQ hKQ => ?_
 have hS := hid (show (Tryz.prog.info? 97).map (·.size) = some Z.size by rw [hzs]; kernel_rfl)
 refine loadQ 0 rfl (by kernel_rfl) (by kernel_rfl) rfl rfl 0 rfl (by kernel_rfl) _ (fun w' hf => run_load_blk hf 97 Tryz.underlying97 rfl hS.out) ?_
 try simp only [PT]
 refine tQ [1] ?_;refine lR 2 1 rfl rfl rfl rfl (fun w' hf => run_load_blk hf 53 Tryz.underlying53 rfl (by kernel_rfl)) ?_
 simp only [PT];refine tQ [3] ?_;refine sQ 4 fun K hK => ?_;simp only [GO];refine wW 97 22 rfl (w.heap.size + 1) rs Z rfl rfl r1 hzs r2 hzo fun w5 hb5 hw5 => ?_
 have RS := hid ((RX.out.bel (Below.refl _ _).drew).stored (by decide) hzs hb5 hw5)
 have hd5 := hid (hb3.drew.wrote (hw5) (by simp only [List.mem_singleton]; omega))
 refine hK _ _ ⟨⟨fun _ => RS.out.g, fun _ => hd5.out, trivial⟩, ?_⟩
 clear hK K;try simp only [PT]
 refine tQ [5] ?_;refine sQ 6 fun K hK => ?_;simp only [GO];obtain ⟨ds, d1, d2⟩ := RS.out.d
 refine wW 53 2 rfl (w.heap.size + 1 + 1) ds didZ rfl rfl d1 rfl d2 (by simp [didZ, Value.oneCell']) fun w6 hb6 hw6 => ?_
 refine hK _ _ ⟨⟨fun _ => RS.out.g.wrote hw6 (by simp <;> omega), (fun h => by cases h), trivial⟩, ?_⟩
 clear hK K;try simp only [PT]
 refine tQ [7] ?_;refine dQ (hKQ.out _ _ ?_);clear hKQ KQ;go_wp2
 have l1 := run_loadVar_blk (P := Tryz.prog) (hb5.wrote hw6 (by simp)) 97 Tryz.underlying97 rfl (by rw [hzs]; kernel_rfl)
 have l2 := run_loadVar_blk (P := Tryz.prog) hb6 53 Tryz.underlying53 rfl (by kernel_rfl)
 refine bodyPost_ret (results_ctct Tryz.results77 rfl rfl l1 l2 rfl rfl) rfl ?_
 exact ⟨no, rfl, below_wrote RS.out.below hw6 (by simp; omega)⟩
end
section
theorem r23_Give (topic body : List UInt8) (q : Int) (retain : Bool) (w : World) (ht : topic.length <= 1000000) :
  Calls Tryz.prog 75 #[.agg zS, .string ⟨topic.toArray⟩, .string ⟨body.toArray⟩, .int .i64 q, .bool retain] w fun e w' => ∃ no, e = .returned (.tuple #[.agg zS, .agg didZ, .bool false, .int .i64 no]) /\ Below w.heap.size w w' := by
 have CN := hid fun W => r13_Name topic W ht
 have hsz : ByteArray.size ⟨body.toArray⟩ = body.length := by simp [ByteArray.size]
 have hz4 : ∀ (j : Nat) (v : Value), ([.string ⟨#[]⟩, .int .i64 0, .int .i64 0, .int .i64 0, .int .i64 0, .slice none 0 0, .slice none 0 0, .slice none 0 0] : List Value)[j]? = some v -> zS[4 + j]? = some v := by
  intro j v hj
  have hlt : j < 8 := (List.getElem?_eq_some_iff.1 hj).1
  obtain rfl | rfl | rfl | rfl | rfl | rfl | rfl | rfl : j = 0 \/ j = 1 \/ j = 2 \/ j = 3 \/ j = 4 \/ j = 5 \/ j = 6 \/ j = 7 := by omega
  all_goals exact hj
 have hzs : zS.size = 22 := rfl
 have hzo := zS_one
 have hz13 : zS[13]? = some (.slice none 0 0) := rfl
 have hz3 : zS[3]? = some (.int .i64 0) := rfl
 have hz2 : zS[2]? = some (.int .i64 0) := rfl
 have hz12 : zS[12]? = some (.slice none 0 0) := rfl
 have hz15 : zS[15]? = some (.bool false) := rfl
 obtain ⟨Z, hZ⟩ : ∃ Z, zS = Z := ⟨_, rfl⟩
 rw [hZ] at hzs hzo hz13 hz3 hz2 hz12 hz15 ⊢
 rw [hZ] at hz4
 cases hm : nameR topic with
 | false =>
  rw [hm] at CN
  go_enter Tryz.func75, Tryz.ntmps75
  go_wp2_with fail
  obtain ⟨W0, hW0⟩ : ∃ W0, W0 = (((w.alloc (.cells Z 97)).alloc (.cells zS 97)).alloc (.cells didZ 53)) := ⟨_, rfl⟩
  have R0 := hid (R3.start w Z zS didZ rfl rfl)
  rw [<- hW0] at R0
  unfold zS didZ at hW0
  rw [<- hW0]
  clear hW0;refine (CN.out _).mono ?_
  rintro e w1 ⟨rfl, hb1⟩
  have RX := hid (R0.out.bel hb1)
  obtain ⟨rs, r1, r2⟩ := RX.out.r
  go_wp2_with (first
   | (refine wpList_load_blk rfl 97 _ rfl w.heap.size Z rfl RX.out.g Tryz.underlying97 rfl (by rw [hzs]; kernel_rfl) ?_)
   | (refine wS 97 22 rfl (w.heap.size + 1) rs Z rfl rfl r1 hzs r2 hzo ?_; intro w5 hb5 hw5; have RS := RX.out.stored (by decide) hzs hb5 hw5; obtain ⟨-, -, ⟨ds, d1, d2⟩, bs⟩ := RS)
   | (refine wS 53 2 rfl (w.heap.size + 1 + 1) ds didZ rfl rfl d1 rfl d2 (by simp [didZ, Value.oneCell']) ?_; intro w6 hb6 hw6; have l1 := run_loadVar_blk (P := Tryz.prog) (hb5.wrote hw6 (by simp)) 97 Tryz.underlying97 rfl (by rw [hzs]; kernel_rfl); have l2 := run_loadVar_blk (P := Tryz.prog) hb6 53 Tryz.underlying53 rfl (by kernel_rfl); have bb := below_wrote bs hw6 (by simp; omega)))
  refine bodyPost_ret (results_cctt Tryz.results75 rfl rfl l1 l2 rfl rfl) rfl ?_
  exact ⟨2, rfl, bb⟩
 | true =>
  rw [hm] at CN
  by_cases h1 : 2000 < (body.length : Int)
  ·have e1 : decide (2000 < (body.length : Int)) = true := decide_eq_true h1
   go_enter Tryz.func75, Tryz.ntmps75
   go_wp2_with fail
   obtain ⟨W0, hW0⟩ : ∃ W0, W0 = (((w.alloc (.cells Z 97)).alloc (.cells zS 97)).alloc (.cells didZ 53)) := ⟨_, rfl⟩
   have R0 := hid (R3.start w Z zS didZ rfl rfl)
   rw [<- hW0] at R0
   unfold zS didZ at hW0
   rw [<- hW0]
   clear hW0;refine (CN.out _).mono ?_
   rintro e w1 ⟨rfl, hb1⟩
   have RX := hid (R0.out.bel hb1)
   obtain ⟨rs, r1, r2⟩ := RX.out.r
   go_wp2_with (first
    | (refine wpList_load_blk rfl 97 _ rfl w.heap.size Z rfl RX.out.g Tryz.underlying97 rfl (by rw [hzs]; kernel_rfl) ?_)
    | (refine wS 97 22 rfl (w.heap.size + 1) rs Z rfl rfl r1 hzs r2 hzo ?_; intro w5 hb5 hw5; have RS := RX.out.stored (by decide) hzs hb5 hw5; obtain ⟨-, -, ⟨ds, d1, d2⟩, bs⟩ := RS)
    | (refine wS 53 2 rfl (w.heap.size + 1 + 1) ds didZ rfl rfl d1 rfl d2 (by simp [didZ, Value.oneCell']) ?_; intro w6 hb6 hw6; have l1 := run_loadVar_blk (P := Tryz.prog) (hb5.wrote hw6 (by simp)) 97 Tryz.underlying97 rfl (by rw [hzs]; kernel_rfl); have l2 := run_loadVar_blk (P := Tryz.prog) hb6 53 Tryz.underlying53 rfl (by kernel_rfl); have bb := below_wrote bs hw6 (by simp; omega)))
   refine bodyPost_ret (results_cctt Tryz.results75 rfl rfl l1 l2 rfl rfl) rfl ?_
   exact ⟨2, rfl, bb⟩
  have e1 : decide (2000 < (body.length : Int)) = false := decide_eq_false h1
  by_cases h2 : q < 0
  ·have e2 : decide (q < 0) = true := decide_eq_true h2
   go_enter Tryz.func75, Tryz.ntmps75
   go_wp2_with fail
   obtain ⟨W0, hW0⟩ : ∃ W0, W0 = (((w.alloc (.cells Z 97)).alloc (.cells zS 97)).alloc (.cells didZ 53)) := ⟨_, rfl⟩
   have R0 := hid (R3.start w Z zS didZ rfl rfl)
   rw [<- hW0] at R0
   unfold zS didZ at hW0
   rw [<- hW0]
   clear hW0;refine (CN.out _).mono ?_
   rintro e w1 ⟨rfl, hb1⟩
   have RX := hid (R0.out.bel hb1)
   obtain ⟨rs, r1, r2⟩ := RX.out.r
   go_wp2_with (first
    | (refine wpList_load_blk rfl 97 _ rfl w.heap.size Z rfl RX.out.g Tryz.underlying97 rfl (by rw [hzs]; kernel_rfl) ?_)
    | (refine wS 97 22 rfl (w.heap.size + 1) rs Z rfl rfl r1 hzs r2 hzo ?_; intro w5 hb5 hw5; have RS := RX.out.stored (by decide) hzs hb5 hw5; obtain ⟨-, -, ⟨ds, d1, d2⟩, bs⟩ := RS)
    | (refine wS 53 2 rfl (w.heap.size + 1 + 1) ds didZ rfl rfl d1 rfl d2 (by simp [didZ, Value.oneCell']) ?_; intro w6 hb6 hw6; have l1 := run_loadVar_blk (P := Tryz.prog) (hb5.wrote hw6 (by simp)) 97 Tryz.underlying97 rfl (by rw [hzs]; kernel_rfl); have l2 := run_loadVar_blk (P := Tryz.prog) hb6 53 Tryz.underlying53 rfl (by kernel_rfl); have bb := below_wrote bs hw6 (by simp; omega)))
   refine bodyPost_ret (results_cctt Tryz.results75 rfl rfl l1 l2 rfl rfl) rfl ?_
   exact ⟨2, rfl, bb⟩
  have e2 : decide (q < 0) = false := decide_eq_false h2
  by_cases h3 : 2 < q
  ·have e3 : decide (2 < q) = true := decide_eq_true h3
   go_enter Tryz.func75, Tryz.ntmps75
   go_wp2_with fail
   obtain ⟨W0, hW0⟩ : ∃ W0, W0 = (((w.alloc (.cells Z 97)).alloc (.cells zS 97)).alloc (.cells didZ 53)) := ⟨_, rfl⟩
   have R0 := hid (R3.start w Z zS didZ rfl rfl)
   rw [<- hW0] at R0
   unfold zS didZ at hW0
   rw [<- hW0]
   clear hW0;refine (CN.out _).mono ?_
   rintro e w1 ⟨rfl, hb1⟩
   have RX := hid (R0.out.bel hb1)
   obtain ⟨rs, r1, r2⟩ := RX.out.r
   go_wp2_with (first
    | (refine wpList_load_blk rfl 97 _ rfl w.heap.size Z rfl RX.out.g Tryz.underlying97 rfl (by rw [hzs]; kernel_rfl) ?_)
    | (refine wS 97 22 rfl (w.heap.size + 1) rs Z rfl rfl r1 hzs r2 hzo ?_; intro w5 hb5 hw5; have RS := RX.out.stored (by decide) hzs hb5 hw5; obtain ⟨-, -, ⟨ds, d1, d2⟩, bs⟩ := RS)
    | (refine wS 53 2 rfl (w.heap.size + 1 + 1) ds didZ rfl rfl d1 rfl d2 (by simp [didZ, Value.oneCell']) ?_; intro w6 hb6 hw6; have l1 := run_loadVar_blk (P := Tryz.prog) (hb5.wrote hw6 (by simp)) 97 Tryz.underlying97 rfl (by rw [hzs]; kernel_rfl); have l2 := run_loadVar_blk (P := Tryz.prog) hb6 53 Tryz.underlying53 rfl (by kernel_rfl); have bb := below_wrote bs hw6 (by simp; omega)))
   refine bodyPost_ret (results_cctt Tryz.results75 rfl rfl l1 l2 rfl rfl) rfl ?_
   exact ⟨2, rfl, bb⟩
  have e3 : decide (2 < q) = false := decide_eq_false h3
  by_cases h4 : q = 0
  ·subst h4
   go_enter Tryz.func75, Tryz.ntmps75
   go_wp2_with fail
   obtain ⟨W0, hW0⟩ : ∃ W0, W0 = (((w.alloc (.cells Z 97)).alloc (.cells zS 97)).alloc (.cells didZ 53)) := ⟨_, rfl⟩
   have R0 := hid (R3.start w Z zS didZ rfl rfl)
   rw [<- hW0] at R0
   unfold zS didZ at hW0
   rw [<- hW0]
   clear hW0;refine (CN.out _).mono ?_
   rintro e w1 ⟨rfl, hb1⟩
   have R1 := hid (R0.out.bel hb1)
   go_wp2_with (refine wS 53 2 rfl w1.heap.size _ didZ rfl rfl (Blk.new w1 _ _) rfl rfl (by simp [didZ, Value.oneCell']) ?_; intro w3 hb3 hw3; have hB3 := hid (((Below.refl w1.heap.size w1).alloc (Nat.le_refl _) (.cells didZ 53)).trans (hw3.below (by simp) (by simp))); have k15 : w3.cell? ⟨w.heap.size, 15, none⟩ = some (.bool false) := ((R1.out.bel hB3.out).g.cell 15).trans hz15)
   have hs2 : w.heap.size + 1 + 1 < w1.heap.size := by obtain ⟨ds, d1, d2⟩ := R1.out.d; exact d1.lt
   have RX := hid (R1.out.bel hB3.out)
   obtain ⟨rs, r1, r2⟩ := RX.out.r
   have hS := hid (show (Tryz.prog.info? 97).map (·.size) = some Z.size by rw [hzs]; kernel_rfl)
   refine regionQ [(1000, fun w' => Blk w' w.heap.size Z 97), (1000, fun w' => Blk w' w1.heap.size didZ 53)] (by kernel_rfl) ⟨RX.out.g, hb3, trivial⟩ fun KQ hKQ => ?_
   refine loadQ 0 rfl (by kernel_rfl) (by kernel_rfl) rfl rfl 0 rfl (by kernel_rfl) _ (fun w' hf => run_load_blk hf 97 Tryz.underlying97 rfl hS.out) ?_
   try simp only [PT]
   refine lR 1 1 rfl rfl rfl rfl (fun w' hf => run_load_blk hf 53 Tryz.underlying53 rfl (by kernel_rfl)) ?_
   simp only [PT];refine tQ [2] ?_;refine lR 3 0 rfl rfl rfl rfl (fun w' hf => by (have k15 := (hf.cell 15).trans hz15; go_simp <;> with_reducible rfl)) ?_
   simp only [PT];refine sQ 4 fun K hK => ?_;simp only [GO];refine wW 97 22 rfl (w.heap.size + 1) rs Z rfl rfl r1 hzs r2 hzo fun w5 hb5 hw5 => ?_
   have RS := hid ((RX.out.bel (Below.refl _ _).drew).stored (by decide) hzs hb5 hw5)
   have hd5 := hid (hb3.drew.wrote (hw5) (by simp only [List.mem_singleton]; omega))
   refine hK _ _ ⟨⟨fun _ => RS.out.g, fun _ => hd5.out, trivial⟩, ?_⟩
   clear hK K;try simp only [PT]
   refine sQ 5 fun K hK => ?_;simp only [GO];obtain ⟨ds, d1, d2⟩ := RS.out.d
   refine wW 53 2 rfl (w.heap.size + 1 + 1) ds didZ rfl rfl d1 rfl d2 (by simp [didZ, Value.oneCell']) fun w6 hb6 hw6 => ?_
   refine hK _ _ ⟨⟨fun _ => RS.out.g.wrote hw6 (by simp <;> omega), fun _ => hd5.out.wrote hw6 (by simp only [List.mem_singleton]; omega), trivial⟩, ?_⟩
   clear hK K;try simp only [PT]
   refine tQ [6, 7] ?_;refine dQ (hKQ.out _ _ ?_);clear hKQ KQ;go_wp2
   have l1 := run_loadVar_blk (P := Tryz.prog) (hb5.wrote hw6 (by simp)) 97 Tryz.underlying97 rfl (by rw [hzs]; kernel_rfl)
   have l2 := run_loadVar_blk (P := Tryz.prog) hb6 53 Tryz.underlying53 rfl (by kernel_rfl)
   refine bodyPost_ret (results_cctt Tryz.results75 rfl rfl l1 l2 rfl rfl) rfl ?_
   exact ⟨0, rfl, below_wrote RS.out.below hw6 (by simp; omega)⟩
  ·have e4 : (q == 0) = false := by simpa using h4
   have CP := hid fun W => r_Put topic body q retain W
   unfold refA didA at CP
   go_enter Tryz.func75, Tryz.ntmps75
   go_wp2_with fail
   obtain ⟨W0, hW0⟩ : ∃ W0, W0 = (((w.alloc (.cells Z 97)).alloc (.cells zS 97)).alloc (.cells didZ 53)) := ⟨_, rfl⟩
   have R0 := hid (R3.start w Z zS didZ rfl rfl)
   rw [<- hW0] at R0
   unfold zS didZ at hW0
   rw [<- hW0]
   clear hW0;refine (CN.out _).mono ?_
   rintro e w1 ⟨rfl, hb1⟩
   have R1 := hid (R0.out.bel hb1)
   have G1 := hid R1.out.g;go_wp2_with (refine wpList_load_mid rfl 38 _ rfl w.heap.size 4 rfl [.string ⟨#[]⟩, .int .i64 0, .int .i64 0, .int .i64 0, .int .i64 0, .slice none 0 0, .slice none 0 0, .slice none 0 0] _ (fun j v hj => (G1.out.cell (4 + j)).trans (hz4 j v hj)) Tryz.underlying38 rfl (by kernel_rfl) ?_)
   refine (CP.out _).mono ?_
   rintro e w2 ⟨rfl, hb2⟩
   have R2 := hid (R1.out.bel hb2)
   go_wp2_with (first
    | (refine wS 38 8 rfl w2.heap.size _ #[.string ⟨#[]⟩, .int .i64 0, .int .i64 0, .int .i64 0, .int .i64 0, .slice none 0 0, .slice none 0 0, .slice none 0 0] rfl rfl ((Blk.new w2 _ _).alloc _) rfl rfl (by simp [Value.oneCell']) ?_; intro w3 hb3 hw3)
    | (refine wS 53 2 rfl (w2.heap.size + 1) _ didZ rfl rfl ((Blk.new_at _ _ _ _ (by simp)).wrote hw3 (by simp)) rfl rfl (by simp [didZ, Value.oneCell']) ?_; intro w4 hb4 hw4; have hB4 := hid (((((Below.refl w2.heap.size w2).alloc (Nat.le_refl _) (.cells zA 38)).alloc (by simp) (.cells didZ 53)).trans (hw3.below (by simp; omega) (by simp))).trans (hw4.below (by have := hb3.lt; omega) (by simp))); have RX := hid (R2.out.bel hB4.out); obtain ⟨rs, r1, r2⟩ := RX.out.r)
    | (refine wpList_load_blk rfl 97 _ rfl w.heap.size Z rfl RX.out.g Tryz.underlying97 rfl (by rw [hzs]; kernel_rfl) ?_)
    | (refine wS 97 22 rfl (w.heap.size + 1) rs Z rfl rfl r1 hzs r2 hzo ?_; intro w5 hb5 hw5; have RS := RX.out.stored (by decide) hzs hb5 hw5; obtain ⟨-, -, ⟨ds, d1, d2⟩, bs⟩ := RS)
    | (refine wS 53 2 rfl (w.heap.size + 1 + 1) ds didZ rfl rfl d1 rfl d2 (by simp [didZ, Value.oneCell']) ?_; intro w6 hb6 hw6; have l1 := run_loadVar_blk (P := Tryz.prog) (hb5.wrote hw6 (by simp)) 97 Tryz.underlying97 rfl (by rw [hzs]; kernel_rfl); have l2 := run_loadVar_blk (P := Tryz.prog) hb6 53 Tryz.underlying53 rfl (by kernel_rfl); have bb := below_wrote bs hw6 (by simp; omega)))
   refine bodyPost_ret (results_cctt Tryz.results75 rfl rfl l1 l2 rfl rfl) rfl ?_
   exact ⟨0, rfl, bb⟩
end
section
def splice (cur : Array Value) (j : Nat) (cs : Array Value) : Array Value := (cur.toList.take j ++ cs.toList ++ cur.toList.drop (j + cs.size)).toArray
theorem splice_size {cur cs : Array Value} {j : Nat} (h : j + cs.size <= cur.size) : (splice cur j cs).size = cur.size := by
 unfold splice
 simp
 omega
section
variable {P : Program} {w : World}
theorem run_store_mid (t T : TypeId) (n : Nat) (hs : ∀ w, (sizeOf t).run P w = .ok n w) {b j : Nat} {cur cs : Array Value} (hb : Blk w b cur T) (h1 : cs.size = n) (h2 : j + n <= cur.size) (ho1 : ∀ v ∈ cs.toList, v.oneCell' = true) :
  (Instr.storeAt t (.pointer (some ⟨b, j, none⟩)) (.agg cs)).run P w = .ok () (w.setRow b (splice cur j cs)) := by
 have hr := run_storeCells_at P b j T cs.toList 0 cur w hb (by simp; omega) ho1
 simp only [Nat.add_zero, Array.length_toList] at hr
 have hc : (Value.agg cs).cells = cs := rfl
 unfold splice
 simp [Instr.storeAt, Instr.sureAddr, storeVar, hs, hc, h1, hr]
theorem wp_store_mid {o : Oper} {a : Act} {K : Act -> World -> Prop} {Q : Exit -> Act -> World -> Prop} (t T : TypeId) (x y : Operand) (ho : o.op = .store t x y) (n : Nat) (hs : ∀ w, (sizeOf t).run P w = .ok n w) (b j : Nat) (cur cs : Array Value)
  (hx : a.eval x = .pointer (some ⟨b, j, none⟩)) (hy : a.eval y = .agg cs) (hb : Blk w b cur T) (h1 : cs.size = n) (h2 : j + n <= cur.size) (ho1 : ∀ v ∈ cs.toList, v.oneCell' = true)
  (h : ∀ w', Blk w' b (splice cur j cs) T -> Wrote [b] w w' -> K (a.put o.dst undef) w') : o.wp P a w K Q := by
 have hr := run_store_mid (P := P) t T n hs hb h1 h2 ho1
 unfold Oper.wp execOp
 simp only [ho, hx, hy, Sem.run_bind, hr, Result.andThen_ok, Sem.run_pure]
 simp only [Oper.upon]
 exact h _ (setRow_heap w b cur _ T (0, 0) hb) (setRow_wrote b _)
theorem wpList_store_mid {ops : Array Oper} {rest : List Oper} {op : Oper} {a : Act} {Q : Exit -> Act -> World -> Prop} (hgd : op.guard = none) (t T : TypeId) (x y : Operand) (ho : op.op = .store t x y) (n : Nat) (hs : ∀ w, (sizeOf t).run P w = .ok n w) (b j : Nat) (cur cs : Array Value)
  (hx : a.eval x = .pointer (some ⟨b, j, none⟩)) (hy : a.eval y = .agg cs) (hb : Blk w b cur T) (h1 : cs.size = n) (h2 : j + n <= cur.size) (ho1 : ∀ v ∈ cs.toList, v.oneCell' = true)
  (h : ∀ w', Blk w' b (splice cur j cs) T -> Wrote [b] w w' -> wpList P ops Q rest (a.put op.dst undef) w') : wpList P ops Q (op :: rest) a w :=
 wpList_plain hgd fun _ hK => wp_store_mid t T x y ho n hs b j cur cs hx hy hb h1 h2 ho1 fun w' hb' hw' => hK _ _ (h w' hb' hw')
end
def RefS (w : World) (e : Ending) (w' : World) : Prop := ∃ (a : Option Addr) (n c : Nat) (no : Int) (qs : List PackV), e = .returned (.tuple #[.agg zS, .agg #[.slice a n c, .slice none 0 0], .int .i64 no]) /\ n = qs.length /\ w'.ownsRow w.heap.size 81 24 (.slice a n c) n (qs.flatMap PackV.cells) /\ Below w.heap.size w w'
theorem r23_HearN (k z : Int) (hk : k ≠ 6) (w : World) :
  Calls Tryz.prog 79 #[.agg zS, .int .i64 k, .int .i64 z] w (RefS w) := by
 have CP := hid fun W => ref_Hear k z W
 unfold RefDid refA didA at CP
 unfold RefS
 have ek : (k != 6) = true := by simpa using hk
 have hz4 : ∀ (j : Nat) (v : Value), ([.string ⟨#[]⟩, .int .i64 0, .int .i64 0, .int .i64 0, .int .i64 0, .slice none 0 0, .slice none 0 0, .slice none 0 0] : List Value)[j]? = some v -> zS[4 + j]? = some v := by
  intro j v hj
  have hlt : j < 8 := (List.getElem?_eq_some_iff.1 hj).1
  obtain rfl | rfl | rfl | rfl | rfl | rfl | rfl | rfl : j = 0 \/ j = 1 \/ j = 2 \/ j = 3 \/ j = 4 \/ j = 5 \/ j = 6 \/ j = 7 := by omega
  all_goals exact hj
 have hsp : splice zS 4 #[.string ⟨#[]⟩, .int .i64 0, .int .i64 0, .int .i64 0, .int .i64 0, .slice none 0 0, .slice none 0 0, .slice none 0 0] = zS := rfl
 have hzs : zS.size = 22 := rfl
 have hzo := zS_one
 have hz13 : zS[13]? = some (.slice none 0 0) := rfl
 have hz3 : zS[3]? = some (.int .i64 0) := rfl
 have hz2 : zS[2]? = some (.int .i64 0) := rfl
 have hz12 : zS[12]? = some (.slice none 0 0) := rfl
 have hz15 : zS[15]? = some (.bool false) := rfl
 obtain ⟨Z, hZ⟩ : ∃ Z, zS = Z := ⟨_, rfl⟩
 rw [hZ] at hzs hzo hz13 hz3 hz2 hz12 hz15 ⊢
 rw [hZ] at hz4 hsp
 obtain ⟨W0, hW0⟩ : ∃ W0, W0 = (((w.alloc (.cells Z 97)).alloc (.cells zS 97)).alloc (.cells didZ 53)) := ⟨_, rfl⟩
 have R0 := hid (R3.start w Z zS didZ rfl rfl)
 rw [<- hW0] at R0
 have G0 := R0.out.g
 rw [hW0] at G0
 unfold zS didZ at hW0 G0
 have G0 := hid G0;go_enter Tryz.func79, Tryz.ntmps79
 go_wp2_with (refine wpList_load_mid rfl 38 _ rfl w.heap.size 4 rfl [.string ⟨#[]⟩, .int .i64 0, .int .i64 0, .int .i64 0, .int .i64 0, .slice none 0 0, .slice none 0 0, .slice none 0 0] _ (fun j v hj => (G0.out.cell (4 + j)).trans (hz4 j v hj)) Tryz.underlying38 rfl (by kernel_rfl) ?_)
 rw [<- hW0]
 clear hW0 G0;refine (CP.out _).mono ?_
 rintro e w2 ⟨a, n, c, no, qs, rfl, hn, hr, hb2⟩
 have R2 := hid (R0.out.bel hb2)
 have hr := hid hr;replace hn := hid hn;have hgs : w.heap.size < W0.heap.size := R0.out.g.lt
 have hds : w.heap.size + 1 + 1 < W0.heap.size := by obtain ⟨ds, d1, d2⟩ := R0.out.d; exact d1.lt
 have hs2 : W0.heap.size <= w2.heap.size := hb2.size
 go_wp2_with (first
  | (refine wS 38 8 rfl w2.heap.size _ #[.string ⟨#[]⟩, .int .i64 0, .int .i64 0, .int .i64 0, .int .i64 0, .slice none 0 0, .slice none 0 0, .slice none 0 0] rfl rfl ((Blk.new w2 _ _).alloc _) rfl rfl (by simp [Value.oneCell']) ?_; intro w3 hb3 hw3)
  | (refine wS 53 2 rfl (w2.heap.size + 1) _ #[.slice a n c, .slice none 0 0] rfl rfl ((Blk.new_at _ _ _ _ (by simp)).wrote hw3 (by simp)) rfl rfl (by simp [Value.oneCell']) ?_; intro w4 hb4 hw4; have hB4 := hid (((((Below.refl w2.heap.size w2).alloc (Nat.le_refl _) (.cells zA 38)).alloc (by simp) (.cells didZ 53)).trans (hw3.below (by simp; omega) (by simp))).trans (hw4.below (by have := hb3.lt; omega) (by simp))); have R4 := hid (R2.out.bel hB4.out); have hr4 := hid (ownsRow_below hr.out hB4.out); have hb34 := hid (hb3.wrote hw4 (by simp)))
  | (refine wL 38 rfl rfl hb34.out Tryz.underlying38 ?_)
  | (refine wpList_store_mid rfl 38 97 _ _ rfl 8 (fun w => by kernel_rfl) w.heap.size 4 Z #[.string ⟨#[]⟩, .int .i64 0, .int .i64 0, .int .i64 0, .int .i64 0, .slice none 0 0, .slice none 0 0, .slice none 0 0] rfl rfl R4.out.g rfl (by rw [hzs]; decide) (by simp [Value.oneCell']) ?_; intro w5 hb5 hw5; rw [hsp] at hb5; have R5 := hid (R4.out.put (by decide) hb5 hw5); have hr5 := hid (not_own hr4.out hw5 (fun y hy hb => by have h1 := (hr.out.lt y (mem_blk.1 hb)).1; simp only [List.mem_singleton] at hy; omega)); have hd5 := hid (hb4.wrote hw5 (by simp; omega))))
 have hS := hid (show (Tryz.prog.info? 97).map (·.size) = some Z.size by rw [hzs]; kernel_rfl)
 obtain ⟨rs, r1, r2⟩ := R5.out.r
 refine regionQ [(1000, fun w' => Blk w' w.heap.size Z 97), (1000, fun w' => Blk w' (w2.heap.size + 1) #[.slice a n c, .slice none 0 0] 53)] (by kernel_rfl) ⟨R5.out.g, hd5.out, trivial⟩ fun KQ hKQ => ?_
 try simp only [PT]
 refine loadQ 0 rfl (by kernel_rfl) (by kernel_rfl) rfl rfl 0 rfl (by kernel_rfl) _ (fun w' hf => run_load_blk hf 97 Tryz.underlying97 rfl hS.out) ?_
 try simp only [PT]
 refine lR 1 1 rfl rfl rfl rfl (fun w' hf => run_load_blk hf 53 Tryz.underlying53 rfl (by kernel_rfl)) ?_
 simp only [PT];refine tQ [2] ?_;refine sQ 3 fun K hK => ?_;simp only [GO];refine wW 97 22 rfl (w.heap.size + 1) rs Z rfl rfl r1 hzs r2 hzo fun w6 hb6 hw6 => ?_
 have RS := hid ((R5.out.bel (Below.refl _ _).drew).stored (by decide) hzs hb6 hw6)
 have hd6 := hid (hd5.out.drew.wrote hw6 (by simp; omega))
 have hr6 := hid (not_own hr5.out.drew hw6 (fun y hy hb => by have h1 := (hr.out.lt y (mem_blk.1 hb)).1; simp only [List.mem_singleton] at hy; omega))
 refine hK _ _ ⟨⟨fun _ => RS.out.g, fun _ => hd6.out, trivial⟩, ?_⟩
 clear hK K;try simp only [PT]
 refine sQ 4 fun K hK => ?_;simp only [GO];obtain ⟨ds, d1, d2⟩ := RS.out.d
 refine wW 53 2 rfl (w.heap.size + 1 + 1) ds #[.slice a n c, .slice none 0 0] rfl rfl d1 rfl d2 (by simp [Value.oneCell']) fun w7 hb7 hw7 => ?_
 refine hK _ _ ⟨⟨fun _ => RS.out.g.wrote hw7 (by simp <;> omega), fun _ => hd6.out.wrote hw7 (by simp; omega), trivial⟩, ?_⟩
 clear hK K;try simp only [PT]
 refine tQ [5] ?_;refine dQ (hKQ.out _ _ ?_);clear hKQ KQ;go_wp2
 have l1 := run_loadVar_blk (P := Tryz.prog) (hb6.wrote hw7 (by simp)) 97 Tryz.underlying97 rfl (by rw [hzs]; kernel_rfl)
 have l2 := run_loadVar_blk (P := Tryz.prog) hb7 53 Tryz.underlying53 rfl (by kernel_rfl)
 refine bodyPost_ret (results_cct Tryz.results79 rfl rfl l1 l2 rfl) rfl ?_
 exact ⟨a, n, c, no, qs, rfl, hn.out, ownsRow_mono (not_own hr6.out hw7 (fun y hy hb => by have h1 := (hr.out.lt y (mem_blk.1 hb)).1; simp only [List.mem_singleton] at hy; omega)) (by omega), below_wrote RS.out.below hw7 (by simp; omega)⟩
end
end Go.Proofs.YtoinabapaeebfaaGreatDoor
