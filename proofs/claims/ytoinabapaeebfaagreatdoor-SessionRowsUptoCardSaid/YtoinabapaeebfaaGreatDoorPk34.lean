/- Parts of the proof of SessionRows: contracts of functions that it reaches, and plain lemmas. No condition of their own. -/
import Derived.Test.YtoinabapaeebfaaGreatDoorPk33
import Derived.Test.YtoinabapaeebfaaGreatDoorPk32
set_option linter.unusedSimpArgs false
set_option linter.unusedVariables false
set_option maxRecDepth 100000
set_option maxHeartbeats 8000000
namespace Go.Proofs.YtoinabapaeebfaaGreatDoor
open Go.RowKit Go.Shelf
section
theorem bk_DoT_dstore1 {P : Prop} (h : P := by
 refine sQ 16 fun K hK => ?_;simp only [GO];have D7 := hid (D5.out.bel ((Below.refl w5.heap.size w5).drew))
 have BY := hid ((Below.refl w5.heap.size w5).drew)
 refine wW 97 22 rfl (w.heap.size + 1 + 1) rs Z rfl rfl (r1.out.below BY.out) SZ.size r2 SZ.one fun w8 hb8 hw8 => ?_
 refine hK _ _ ⟨⟨fun _ => D7.out.g.wrote hw8 (by simp <;> omega), fun _ => D7.out.d.wrote hw8 (by simp <;> omega), fun _ => D7.out.w.wrote hw8 (by simp <;> omega), trivial⟩, ?_⟩
 clear hK K;try simp only [PT]
 refine tQ [17, 18] ?_;refine dQ (hKQ.out _ _ ?_);clear hKQ KQ;go_wp2
 have l1 := run_loadVar_blk (P := Tryz.prog) hb8 97 Tryz.underlying97 rfl (by rw [SZ.size]; kernel_rfl)
 change bodyPost Tryz.prog Tryz.f35 _ _ _ _
 refine bodyPost_ret (results_ctt Tryz.results35 rfl l1 rfl rfl) rfl ?_
 have hw18 : Wrote [w.heap.size, w.heap.size + 1 + 1 + 1, w.heap.size + 1 + 1 + 1 + 1, w.heap.size + 1 + 1] w1 w8 := ((hw15.out.sub (by simp)).trans (Wrote.of_below BY.out)).trans (hw8.sub (by simp))
 have hn18 : ∀ n, n ∈ [w.heap.size, w.heap.size + 1 + 1 + 1, w.heap.size + 1 + 1 + 1 + 1, w.heap.size + 1 + 1] -> w.heap.size <= n /\ n <= w.heap.size + 4 := by simp; omega
 exact show DoP _ _ _ _ _ from ⟨Z, ac, nc, cc, _, S', rfl, SZ, hnc.out.symm, (D.out.xb.out hw18 (fun n hn => hnf1.out n (hn18 n hn).1 (hn18 n hn).2) (by simp <;> omega)).top, D.out.p, ((Stp.below B0.out).trans D.out.stp).fresh hw18 (fun n hn => (hn18 n hn).1), ownsRow_mono (not_own RC.out (((Wrote.of_below (M := [w.heap.size + 1 + 1]) BY.out)).trans hw8) (fun y hy hb => by have h1 := (RC.out.lt y (mem_blk.1 hb)).1; simp at hy; omega)) (by omega), fun y hy => by have h1 := D.out.free y (List.mem_append_right _ (by rw [hnc.out] at *; exact hy)); exact h1⟩) : P := h
theorem bk_DoT_dtailF2 {P : Prop} (h : P := by
 have hw15 := hid hw15;have hfar : ∀ n, n ∈ [w.heap.size, w.heap.size + 1 + 1 + 1, w.heap.size + 1 + 1 + 1 + 1] -> n < W0.heap.size := by simp; omega
 have RP := hid (ownsRow_mono (base' := 0) (not_own hpk.out hw15.out (fun y hy hb => by have h1 := (hpk.out.lt y (mem_blk.1 hb)).1; have h2 := hfar y hy; omega)) (Nat.zero_le _))
 have RC := hid (not_own hck.out hw15.out (fun y hy hb => by have h1 := (hck.out.lt y (mem_blk.1 hb)).1; have h2 := hfar y hy; omega))
 have SD := hid fun (W : World) (e1 : W.ownsRow 0 81 24 (.slice ap np cp) np (ps.flatMap PackV.cells)) (e2 : W.ownsRow 0 115 10 (.slice ac nc cc) nc (cs.flatMap ChangeV.cells)) (e3 : W.ownsRow 0 81 24 (.slice none 0 0) 0 (([] : List PackV).flatMap PackV.cells)) => by
  have h0 := r_SameDid ps ([] : List PackV) cs [] ap ac none none cp cc 0 0 W (by rw [hnp.out]; exact e1) (by rw [hnc.out]; exact e2) (by rw [<- hrn.out]; exact e3) (World.ownsRow_nil _ _ _ _) (fun h => List.eq_nil_of_length_eq_zero h) hps hcs
  rw [hnp.out, hnc.out, <- hrn.out] at h0
  exact h0
 obtain ⟨rs, r1, r2⟩ := D5.out.r
 have r1 := hid r1;have hS := hid (show (Tryz.prog.info? 97).map (·.size) = some Z.size by rw [SZ.size]; kernel_rfl)
 clear hfar;refine regionQ [(1000, fun w' => Blk w' w.heap.size Z 97), (1000, fun w' => Blk w' (w.heap.size + 1 + 1 + 1) #[.slice ap np cp, .slice ac nc cc] 53), (1000, fun w' => Blk w' (w.heap.size + 1 + 1 + 1 + 1) #[.slice none 0 0, .slice none 0 0] 53)] (by kernel_rfl) ⟨D5.out.g, D5.out.d, D5.out.w, trivial⟩ fun KQ hKQ => ?_
 try simp only [PT]
 refine loadQ 0 rfl (by kernel_rfl) (by kernel_rfl) rfl rfl 0 rfl (by kernel_rfl) _ (fun w' hf => run_load_blk hf 97 Tryz.underlying97 rfl hS.out) ?_
 try simp only [PT]
 refine tQ [1] ?_;refine lR 2 1 rfl rfl rfl rfl (fun w' hf => by (have k1 := hf.cell 1; simp at k1; go_simp <;> with_reducible rfl)) ?_
 simp only [PT];refine tQ [3, 4, 5, 6] ?_;refine uQ 7 ?_;refine uQ 8 ?_;refine uQ 9 ?_;refine tQ [10, 11] ?_;refine uQ 12 ?_;refine uQ 13 ?_;refine uQ 14 ?_;refine tQ [15] ?_;exact bk_DoT_dstore1) : P := h
theorem bk_DoT_dstore3 {P : Prop} (h : P := by
 refine sQ 16 fun K hK => ?_;simp only [GO];have D7 := hid (D5.out.bel (hb6'.out))
 have BY := hid (hb6'.out)
 refine wW 97 22 rfl (w.heap.size + 1 + 1) rs Z rfl rfl (r1.out.below BY.out) SZ.size r2 SZ.one fun w8 hb8 hw8 => ?_
 refine hK _ _ ⟨⟨fun _ => D7.out.g.wrote hw8 (by simp <;> omega), fun _ => D7.out.d.wrote hw8 (by simp <;> omega), fun _ => D7.out.w.wrote hw8 (by simp <;> omega), trivial⟩, ?_⟩
 clear hK K;try simp only [PT]
 refine tQ [17, 18] ?_;refine dQ (hKQ.out _ _ ?_);clear hKQ KQ;go_wp2
 have l1 := run_loadVar_blk (P := Tryz.prog) hb8 97 Tryz.underlying97 rfl (by rw [SZ.size]; kernel_rfl)
 change bodyPost Tryz.prog Tryz.f35 _ _ _ _
 refine bodyPost_ret (results_ctt Tryz.results35 rfl l1 rfl rfl) rfl ?_
 have hw18 : Wrote [w.heap.size, w.heap.size + 1 + 1 + 1, w.heap.size + 1 + 1 + 1 + 1, w.heap.size + 1 + 1] w1 w8 := ((hw15.out.sub (by simp)).trans (Wrote.of_below BY.out)).trans (hw8.sub (by simp))
 have hn18 : ∀ n, n ∈ [w.heap.size, w.heap.size + 1 + 1 + 1, w.heap.size + 1 + 1 + 1 + 1, w.heap.size + 1 + 1] -> w.heap.size <= n /\ n <= w.heap.size + 4 := by simp; omega
 exact show DoP _ _ _ _ _ from ⟨Z, ac, nc, cc, _, S', rfl, SZ, hnc.out.symm, (D.out.xb.out hw18 (fun n hn => hnf1.out n (hn18 n hn).1 (hn18 n hn).2) (by simp <;> omega)).top, D.out.p, ((Stp.below B0.out).trans D.out.stp).fresh hw18 (fun n hn => (hn18 n hn).1), ownsRow_mono (not_own RC.out (((Wrote.of_below (M := [w.heap.size + 1 + 1]) BY.out)).trans hw8) (fun y hy hb => by have h1 := (RC.out.lt y (mem_blk.1 hb)).1; simp at hy; omega)) (by omega), fun y hy => by have h1 := D.out.free y (List.mem_append_right _ (by rw [hnc.out] at *; exact hy)); exact h1⟩) : P := h
theorem bk_DoT_dtailT4 {P : Prop} (h : P := by
 by_cases hno : no = no2
 ·subst hno
  have hw15 := hid hw15;have hfar : ∀ n, n ∈ [w.heap.size, w.heap.size + 1 + 1 + 1, w.heap.size + 1 + 1 + 1 + 1] -> n < W0.heap.size := by simp; omega
  have RP := hid (ownsRow_mono (base' := 0) (not_own hpk.out hw15.out (fun y hy hb => by have h1 := (hpk.out.lt y (mem_blk.1 hb)).1; have h2 := hfar y hy; omega)) (Nat.zero_le _))
  have RC := hid (not_own hck.out hw15.out (fun y hy hb => by have h1 := (hck.out.lt y (mem_blk.1 hb)).1; have h2 := hfar y hy; omega))
  have SD := hid fun (W : World) (e1 : W.ownsRow 0 81 24 (.slice ap np cp) np (ps.flatMap PackV.cells)) (e2 : W.ownsRow 0 115 10 (.slice ac nc cc) nc (cs.flatMap ChangeV.cells)) (e3 : W.ownsRow 0 81 24 (.slice none 0 0) 0 (([] : List PackV).flatMap PackV.cells)) => by
   have h0 := r_SameDid ps ([] : List PackV) cs [] ap ac none none cp cc 0 0 W (by rw [hnp.out]; exact e1) (by rw [hnc.out]; exact e2) (by rw [<- hrn.out]; exact e3) (World.ownsRow_nil _ _ _ _) (fun h => List.eq_nil_of_length_eq_zero h) hps hcs
   rw [hnp.out, hnc.out, <- hrn.out] at h0
   exact h0
  obtain ⟨rs, r1, r2⟩ := D5.out.r
  have r1 := hid r1;have hS := hid (show (Tryz.prog.info? 97).map (·.size) = some Z.size by rw [SZ.size]; kernel_rfl)
  clear hfar;refine regionQ [(1000, fun w' => Blk w' w.heap.size Z 97), (1000, fun w' => Blk w' (w.heap.size + 1 + 1 + 1) #[.slice ap np cp, .slice ac nc cc] 53), (1000, fun w' => Blk w' (w.heap.size + 1 + 1 + 1 + 1) #[.slice none 0 0, .slice none 0 0] 53)] (by kernel_rfl) ⟨D5.out.g, D5.out.d, D5.out.w, trivial⟩ fun KQ hKQ => ?_
  try simp only [PT]
  refine loadQ 0 rfl (by kernel_rfl) (by kernel_rfl) rfl rfl 0 rfl (by kernel_rfl) _ (fun w' hf => run_load_blk hf 97 Tryz.underlying97 rfl hS.out) ?_
  try simp only [PT]
  refine tQ [1] ?_;refine lR 2 1 rfl rfl rfl rfl (fun w' hf => by (have k1 := hf.cell 1; simp at k1; go_simp <;> with_reducible rfl)) ?_
  simp only [PT];refine tQ [3, 4, 5, 6] ?_;refine tQ [7, 8, 9, 10, 11] ?_;refine lR 12 1 rfl rfl rfl rfl (fun w' hf => run_load_blk hf 53 Tryz.underlying53 rfl (by kernel_rfl)) ?_
  simp only [PT];refine lR 13 2 rfl rfl rfl rfl (fun w' hf => run_load_blk hf 53 Tryz.underlying53 rfl (by kernel_rfl)) ?_
  simp only [PT];refine sQ 14 fun K hK => ?_;simp only [GO];go_simp;refine (SD.out _ RP.out.drew (ownsRow_mono (base' := 0) RC.out (Nat.zero_le _)).drew RQ.out.drew).mono ?_
  rintro e w6 ⟨⟨bb, rfl, -⟩, hb6⟩
  have hb6' := hid ((Below.refl w5.heap.size w5).drew.trans hb6)
  have D6 := hid (D5.out.bel hb6'.out)
  refine hK _ _ ⟨⟨fun _ => D6.out.g, fun _ => D6.out.d, fun _ => D6.out.w, trivial⟩, ?_⟩
  clear hK K;try simp only [PT]
  refine tQ [15] ?_;exact bk_DoT_dstore3
 ·have dno : (no == no2) = false := by simpa using hno
  have hw15 := hid hw15;have hfar : ∀ n, n ∈ [w.heap.size, w.heap.size + 1 + 1 + 1, w.heap.size + 1 + 1 + 1 + 1] -> n < W0.heap.size := by simp; omega
  have RP := hid (ownsRow_mono (base' := 0) (not_own hpk.out hw15.out (fun y hy hb => by have h1 := (hpk.out.lt y (mem_blk.1 hb)).1; have h2 := hfar y hy; omega)) (Nat.zero_le _))
  have RC := hid (not_own hck.out hw15.out (fun y hy hb => by have h1 := (hck.out.lt y (mem_blk.1 hb)).1; have h2 := hfar y hy; omega))
  have SD := hid fun (W : World) (e1 : W.ownsRow 0 81 24 (.slice ap np cp) np (ps.flatMap PackV.cells)) (e2 : W.ownsRow 0 115 10 (.slice ac nc cc) nc (cs.flatMap ChangeV.cells)) (e3 : W.ownsRow 0 81 24 (.slice none 0 0) 0 (([] : List PackV).flatMap PackV.cells)) => by
   have h0 := r_SameDid ps ([] : List PackV) cs [] ap ac none none cp cc 0 0 W (by rw [hnp.out]; exact e1) (by rw [hnc.out]; exact e2) (by rw [<- hrn.out]; exact e3) (World.ownsRow_nil _ _ _ _) (fun h => List.eq_nil_of_length_eq_zero h) hps hcs
   rw [hnp.out, hnc.out, <- hrn.out] at h0
   exact h0
  obtain ⟨rs, r1, r2⟩ := D5.out.r
  have r1 := hid r1;have hS := hid (show (Tryz.prog.info? 97).map (·.size) = some Z.size by rw [SZ.size]; kernel_rfl)
  clear hfar;refine regionQ [(1000, fun w' => Blk w' w.heap.size Z 97), (1000, fun w' => Blk w' (w.heap.size + 1 + 1 + 1) #[.slice ap np cp, .slice ac nc cc] 53), (1000, fun w' => Blk w' (w.heap.size + 1 + 1 + 1 + 1) #[.slice none 0 0, .slice none 0 0] 53)] (by kernel_rfl) ⟨D5.out.g, D5.out.d, D5.out.w, trivial⟩ fun KQ hKQ => ?_
  try simp only [PT]
  refine loadQ 0 rfl (by kernel_rfl) (by kernel_rfl) rfl rfl 0 rfl (by kernel_rfl) _ (fun w' hf => run_load_blk hf 97 Tryz.underlying97 rfl hS.out) ?_
  try simp only [PT]
  refine tQ [1] ?_;refine lR 2 1 rfl rfl rfl rfl (fun w' hf => by (have k1 := hf.cell 1; simp at k1; go_simp <;> with_reducible rfl)) ?_
  simp only [PT];refine tQ [3, 4, 5, 6] ?_;refine tQ [7, 8, 9, 10, 11] ?_;refine uQ 12 ?_;refine uQ 13 ?_;refine uQ 14 ?_;refine tQ [15] ?_;exact bk_DoT_dstore1) : P := h
theorem bk_DoT_dtailT5 {P : Prop} (h : P := by
 by_cases hno : no = no2
 ·subst hno
  have hw15 := hid hw15;have hfar : ∀ n, n ∈ [w.heap.size, w.heap.size + 1 + 1 + 1, w.heap.size + 1 + 1 + 1 + 1] -> n < W0.heap.size := by simp; omega
  have RP := hid (ownsRow_mono (base' := 0) (not_own hpk.out hw15.out (fun y hy hb => by have h1 := (hpk.out.lt y (mem_blk.1 hb)).1; have h2 := hfar y hy; omega)) (Nat.zero_le _))
  have RC := hid (not_own hck.out hw15.out (fun y hy hb => by have h1 := (hck.out.lt y (mem_blk.1 hb)).1; have h2 := hfar y hy; omega))
  have SD := hid fun (W : World) (e1 : W.ownsRow 0 81 24 (.slice ap np cp) np (ps.flatMap PackV.cells)) (e2 : W.ownsRow 0 115 10 (.slice ac nc cc) nc (cs.flatMap ChangeV.cells)) (e3 : W.ownsRow 0 81 24 (.slice ra rn rc) rn (qs.flatMap PackV.cells)) => by
   have h0 := r_SameDid ps qs cs [] ap ac ra none cp cc rc 0 W (by rw [hnp.out]; exact e1) (by rw [hnc.out]; exact e2) (by rw [<- hrn.out]; exact e3) (World.ownsRow_nil _ _ _ _) (fun h => List.eq_nil_of_length_eq_zero h) hps hcs
   rw [hnp.out, hnc.out, <- hrn.out] at h0
   exact h0
  obtain ⟨rs, r1, r2⟩ := D5.out.r
  have r1 := hid r1;have hS := hid (show (Tryz.prog.info? 97).map (·.size) = some Z.size by rw [SZ.size]; kernel_rfl)
  clear hfar;refine regionQ [(1000, fun w' => Blk w' w.heap.size Z 97), (1000, fun w' => Blk w' (w.heap.size + 1 + 1 + 1) #[.slice ap np cp, .slice ac nc cc] 53), (1000, fun w' => Blk w' (w.heap.size + 1 + 1 + 1 + 1) #[.slice ra rn rc, .slice none 0 0] 53)] (by kernel_rfl) ⟨D5.out.g, D5.out.d, D5.out.w, trivial⟩ fun KQ hKQ => ?_
  try simp only [PT]
  refine loadQ 0 rfl (by kernel_rfl) (by kernel_rfl) rfl rfl 0 rfl (by kernel_rfl) _ (fun w' hf => run_load_blk hf 97 Tryz.underlying97 rfl hS.out) ?_
  try simp only [PT]
  refine tQ [1] ?_;refine lR 2 1 rfl rfl rfl rfl (fun w' hf => by (have k1 := hf.cell 1; simp at k1; go_simp <;> with_reducible rfl)) ?_
  simp only [PT];refine tQ [3, 4, 5, 6] ?_;refine tQ [7, 8, 9, 10, 11] ?_;refine lR 12 1 rfl rfl rfl rfl (fun w' hf => run_load_blk hf 53 Tryz.underlying53 rfl (by kernel_rfl)) ?_
  simp only [PT];refine lR 13 2 rfl rfl rfl rfl (fun w' hf => run_load_blk hf 53 Tryz.underlying53 rfl (by kernel_rfl)) ?_
  simp only [PT];refine sQ 14 fun K hK => ?_;simp only [GO];go_simp;refine (SD.out _ RP.out.drew (ownsRow_mono (base' := 0) RC.out (Nat.zero_le _)).drew RQ.out.drew).mono ?_
  rintro e w6 ⟨⟨bb, rfl, -⟩, hb6⟩
  have hb6' := hid ((Below.refl w5.heap.size w5).drew.trans hb6)
  have D6 := hid (D5.out.bel hb6'.out)
  refine hK _ _ ⟨⟨fun _ => D6.out.g, fun _ => D6.out.d, fun _ => D6.out.w, trivial⟩, ?_⟩
  clear hK K;try simp only [PT]
  refine tQ [15] ?_;exact bk_DoT_dstore3
 ·have dno : (no == no2) = false := by simpa using hno
  have hw15 := hid hw15;have hfar : ∀ n, n ∈ [w.heap.size, w.heap.size + 1 + 1 + 1, w.heap.size + 1 + 1 + 1 + 1] -> n < W0.heap.size := by simp; omega
  have RP := hid (ownsRow_mono (base' := 0) (not_own hpk.out hw15.out (fun y hy hb => by have h1 := (hpk.out.lt y (mem_blk.1 hb)).1; have h2 := hfar y hy; omega)) (Nat.zero_le _))
  have RC := hid (not_own hck.out hw15.out (fun y hy hb => by have h1 := (hck.out.lt y (mem_blk.1 hb)).1; have h2 := hfar y hy; omega))
  have SD := hid fun (W : World) (e1 : W.ownsRow 0 81 24 (.slice ap np cp) np (ps.flatMap PackV.cells)) (e2 : W.ownsRow 0 115 10 (.slice ac nc cc) nc (cs.flatMap ChangeV.cells)) (e3 : W.ownsRow 0 81 24 (.slice ra rn rc) rn (qs.flatMap PackV.cells)) => by
   have h0 := r_SameDid ps qs cs [] ap ac ra none cp cc rc 0 W (by rw [hnp.out]; exact e1) (by rw [hnc.out]; exact e2) (by rw [<- hrn.out]; exact e3) (World.ownsRow_nil _ _ _ _) (fun h => List.eq_nil_of_length_eq_zero h) hps hcs
   rw [hnp.out, hnc.out, <- hrn.out] at h0
   exact h0
  obtain ⟨rs, r1, r2⟩ := D5.out.r
  have r1 := hid r1;have hS := hid (show (Tryz.prog.info? 97).map (·.size) = some Z.size by rw [SZ.size]; kernel_rfl)
  clear hfar;refine regionQ [(1000, fun w' => Blk w' w.heap.size Z 97), (1000, fun w' => Blk w' (w.heap.size + 1 + 1 + 1) #[.slice ap np cp, .slice ac nc cc] 53), (1000, fun w' => Blk w' (w.heap.size + 1 + 1 + 1 + 1) #[.slice ra rn rc, .slice none 0 0] 53)] (by kernel_rfl) ⟨D5.out.g, D5.out.d, D5.out.w, trivial⟩ fun KQ hKQ => ?_
  try simp only [PT]
  refine loadQ 0 rfl (by kernel_rfl) (by kernel_rfl) rfl rfl 0 rfl (by kernel_rfl) _ (fun w' hf => run_load_blk hf 97 Tryz.underlying97 rfl hS.out) ?_
  try simp only [PT]
  refine tQ [1] ?_;refine lR 2 1 rfl rfl rfl rfl (fun w' hf => by (have k1 := hf.cell 1; simp at k1; go_simp <;> with_reducible rfl)) ?_
  simp only [PT];refine tQ [3, 4, 5, 6] ?_;refine tQ [7, 8, 9, 10, 11] ?_;refine uQ 12 ?_;refine uQ 13 ?_;refine uQ 14 ?_;refine tQ [15] ?_;exact bk_DoT_dstore1) : P := h
theorem does_unwant {w : World} {B : Nat} {S : XLay} {x : XS} (h : XB w B S x) (a : AcV) (hk : a.kind = 5) (ht : a.topic.length <= 1000000) :
  Calls Tryz.prog 35 #[.pointer (some ⟨S.p, 0, none⟩), .agg zS, .agg a.cells] w (DoP w S (x.unwant a.topic)) := by
 have CR := hid fun W => r23_Unwant a.topic W ht
 have SZ := gs_zero
 obtain ⟨Z, hZ⟩ : ∃ Z, zS = Z := ⟨_, rfl⟩
 rw [hZ] at SZ ⊢
 obtain ⟨W0, hW0⟩ : ∃ W0, W0 = (((((w.alloc (.cells Z 97)).alloc (.cells a.cells 101)).alloc (.cells zS 97)).alloc (.cells didZ 53)).alloc (.cells didZ 53)) := ⟨_, rfl⟩
 have D0 := hid (D5.start w Z zS didZ didZ a rfl)
 rw [<- hW0] at D0
 have B0 : Below w.heap.size w W0 := by
  rw [hW0]
  exact belw
 have B0 := hid B0;have H0 := hid (h.below B0.out).top
 have hw0 : w.heap.size + 1 + 1 + 1 + 1 < W0.heap.size := D0.out.w.lt
 have hnf : ∀ n, w.heap.size <= n -> n ∉ S.foot := fun n hn => h.foot_lt hn
 replace hnf := hid hnf;have hgl := h.ob.tz.lt
 unfold zS AcV.cells didZ at hW0
 rw [hk] at hW0
 rw [hZ] at CR
 have CS := hid (ses_Unwant_any H0.out a.topic ht)
 have hps : (x.unwant a.topic).ps.length <= 100000 := by unfold XS.unwant; repeat' split
                                                         all_goals simp
 have hcs : (x.unwant a.topic).cs.length <= 100000 := by unfold XS.unwant; repeat' split
                                                         all_goals simp
 obtain ⟨X, hX⟩ : ∃ X : XR, x.unwant a.topic = X := ⟨_, rfl⟩
 rw [hX] at CS hps hcs ⊢
 have k2 : W0.cell? ⟨w.heap.size + 1, 2, none⟩ = some (.string ⟨a.topic.toArray⟩) := D0.out.x.cell 2
 go_enter Tryz.func35, Tryz.ntmps35
 unfold AcV.cells
 rw [hk]
 go_upto_region 11 with (fail)
 rw [<- hW0]
 clear hW0;go_wp2_with fail
 refine CS.out.mono ?_
 rintro e w1 ⟨vp, vc, is, no, rfl, S', D⟩
 obtain ⟨X1, ps, cs⟩ := X
 dsimp only at hps hcs
 replace hX := hid hX;have D0' := D
 obtain ⟨ap, cp, rfl⟩ := own_slice D0'.packs
 obtain ⟨ac, cc, rfl⟩ := own_slice D0'.chgs
 dsimp only at D D0' ⊢
 clear D0';obtain ⟨np, hnp⟩ : ∃ np, ps.length = np := ⟨_, rfl⟩
 obtain ⟨nc, hnc⟩ : ∃ nc, cs.length = nc := ⟨_, rfl⟩
 rw [hnp, hnc] at D ⊢
 have hs1 : W0.heap.size <= w1.heap.size := D.stp.size
 have hnf1 : Hid (∀ n, w.heap.size <= n -> n <= w.heap.size + 4 -> n ∉ S'.foot) := hid fun n h1 h2 => D.stp.not (hnf.out n h1) (by omega)
 have D1 := hid (D0.out.wrote D.stp.wrote (fun n h1 h2 => hnf.out n h1))
 have hpk0 := D.packs
 have hck0 := D.chgs
 rw [hnp] at hpk0
 rw [hnc] at hck0
 have hpk := hid hpk0;have hck := hid hck0;clear hpk0 hck0;have D := hid D;replace hnp := hid hnp;replace hnc := hid hnc;clear k2
 go_wp2_with (first
  | (refine wS 53 2 rfl (w.heap.size + 1 + 1 + 1) _ #[.slice ap np cp, .slice ac nc cc] rfl rfl D1.out.d rfl rfl (by simp [Value.oneCell']) ?_; intro w2 hb2 hw2; have D2 := hid (D1.out.did hb2 hw2); have hw12 := hid hw2; clear hb2 hw2; have k2 : w2.cell? ⟨w.heap.size + 1, 2, none⟩ = some (.string ⟨a.topic.toArray⟩) := D2.out.x.cell 2)
  | (refine wpList_load_blk rfl 97 _ rfl w.heap.size Z rfl D2.out.g Tryz.underlying97 rfl (by rw [SZ.size]; kernel_rfl) ?_))
 refine (CR.out _).mono ?_
 rintro e w3 ⟨no2, rfl, hb3⟩
 have D3 := hid (D2.out.bel hb3)
 have b3 := hid hb3;unfold didZ
 clear hb3 k2
 go_wp2_with (first
  | (refine wS 97 22 rfl w.heap.size Z Z rfl rfl D3.out.g SZ.size SZ.size SZ.one ?_; intro w4 hb4 hw4; have D4 := hid (D3.out.ses hb4 hw4); have hw34 := hid hw4; clear hb4 hw4)
  | (refine wS 53 2 rfl (w.heap.size + 1 + 1 + 1 + 1) _ #[.slice none 0 0, .slice none 0 0] rfl rfl D4.out.w rfl rfl (by simp [Value.oneCell']) ?_; intro w5 hb5 hw5; have D5 := hid (D4.out.want hb5 hw5); have hw45 := hid hw5; clear hb5 hw5))
 have hw15 : Wrote [w.heap.size, w.heap.size + 1 + 1 + 1, w.heap.size + 1 + 1 + 1 + 1] w1 w5 := (((hw12.out.sub (by simp)).trans (Wrote.of_below b3.out)).trans (hw34.out.sub (by simp))).trans (hw45.out.sub (by simp))
 have hrn : Hid (0 = ([] : List PackV).length) := hid rfl
 have RQ : Hid (w5.ownsRow 0 81 24 (.slice none 0 0) 0 (([] : List PackV).flatMap PackV.cells)) := hid (World.ownsRow_nil _ _ _ _)
 cases is with
 | true =>
  exact bk_DoT_dtailF2
 | false =>
  exact bk_DoT_dtailT4
theorem give_len (x : XS) (t b : List UInt8) (q : Int) (r : Bool) (h : x.o.l.length <= 1000) (hr : x.o.room <= 1000) : (x.give t b q r).ps.length <= 100000 /\ (x.give t b q r).cs.length <= 100000 := by
 unfold XS.give
 split
 ·split
  ·split <;> simp
  ·split
   ·rename_i hm
    split
    ·have h1 := start_len5 (x.o.put (x.o.row t b q r)) (by show (x.o.l ++ [_]).length <= 1000; rw [List.length_append]; have := hm.2; simp; omega)
     have h2 : ((x.o.put (x.o.row t b q r)).start.all.fin (x.o.seq + 1) x.o.id).ps.length <= 5000 := h1.1
     have h3 : ((x.o.put (x.o.row t b q r)).start.all.fin (x.o.seq + 1) x.o.id).cs.length <= 5000 := h1.2
     refine ⟨by show ((x.o.put (x.o.row t b q r)).start.all.fin (x.o.seq + 1) x.o.id).ps.length <= _; omega, ?_⟩
     simp only [List.length_cons]
     omega
    ·simp
   ·simp
 ·simp
theorem hear_len (x : XS) (k z : Int) (h : x.o.l.length <= 1000) : (x.hear k z).ps.length <= 100000 /\ (x.hear k z).cs.length <= 100000 := by
 unfold XS.hear XS.rel
 split
 ·split
  ·split <;> simp
  ·simp
 ·have := doHear_len5 x.o k z h
  exact ⟨by show (x.o.doHear k z).ps.length <= _; omega, by show (x.o.doHear k z).cs.length <= _; omega⟩
theorem does_give {w : World} {B : Nat} {S : XLay} {x : XS} (h : XB w B S x) (a : AcV) (hk : a.kind = 6) (ht : a.topic.length <= 1000000) (hseq : x.o.seq <= 4611686018427387904) :
  Calls Tryz.prog 35 #[.pointer (some ⟨S.p, 0, none⟩), .agg zS, .agg a.cells] w (DoP w S (x.give a.topic a.body a.qos a.truth)) := by
 have CR := hid fun W => r23_Give a.topic a.body a.qos a.truth W ht
 have SZ := gs_zero
 obtain ⟨Z, hZ⟩ : ∃ Z, zS = Z := ⟨_, rfl⟩
 rw [hZ] at SZ ⊢
 obtain ⟨W0, hW0⟩ : ∃ W0, W0 = (((((w.alloc (.cells Z 97)).alloc (.cells a.cells 101)).alloc (.cells zS 97)).alloc (.cells didZ 53)).alloc (.cells didZ 53)) := ⟨_, rfl⟩
 have D0 := hid (D5.start w Z zS didZ didZ a rfl)
 rw [<- hW0] at D0
 have B0 : Below w.heap.size w W0 := by
  rw [hW0]
  exact belw
 have B0 := hid B0;have H0 := hid (h.below B0.out).top
 have hw0 : w.heap.size + 1 + 1 + 1 + 1 < W0.heap.size := D0.out.w.lt
 have hnf : ∀ n, w.heap.size <= n -> n ∉ S.foot := fun n hn => h.foot_lt hn
 replace hnf := hid hnf;have hgl := h.ob.tz.lt
 unfold zS AcV.cells didZ at hW0
 rw [hk] at hW0
 rw [hZ] at CR
 have CS := hid (ses_Give_any H0.out a.topic a.body a.qos a.truth ht hseq)
 have hln := give_len x a.topic a.body a.qos a.truth (by have := h.ob.ok.room; omega) h.ob.ok.room.1
 have hps := hln.1
 have hcs := hln.2
 clear hln;obtain ⟨X, hX⟩ : ∃ X : XR, x.give a.topic a.body a.qos a.truth = X := ⟨_, rfl⟩
 rw [hX] at CS hps hcs ⊢
 have k1 : W0.cell? ⟨w.heap.size + 1, 1, none⟩ = some (.int .i64 a.qos) := D0.out.x.cell 1
 have k2 : W0.cell? ⟨w.heap.size + 1, 2, none⟩ = some (.string ⟨a.topic.toArray⟩) := D0.out.x.cell 2
 have k3 : W0.cell? ⟨w.heap.size + 1, 3, none⟩ = some (.string ⟨a.body.toArray⟩) := D0.out.x.cell 3
 have k4 : W0.cell? ⟨w.heap.size + 1, 4, none⟩ = some (.bool a.truth) := D0.out.x.cell 4
 go_enter Tryz.func35, Tryz.ntmps35
 unfold AcV.cells
 rw [hk]
 go_upto_region 14 with (fail)
 rw [<- hW0]
 clear hW0;go_wp2_with fail
 refine CS.out.mono ?_
 rintro e w1 ⟨vp, vc, is, no, rfl, S', D⟩
 obtain ⟨X1, ps, cs⟩ := X
 dsimp only at hps hcs
 replace hX := hid hX;have D0' := D
 obtain ⟨ap, cp, rfl⟩ := own_slice D0'.packs
 obtain ⟨ac, cc, rfl⟩ := own_slice D0'.chgs
 dsimp only at D D0' ⊢
 clear D0';obtain ⟨np, hnp⟩ : ∃ np, ps.length = np := ⟨_, rfl⟩
 obtain ⟨nc, hnc⟩ : ∃ nc, cs.length = nc := ⟨_, rfl⟩
 rw [hnp, hnc] at D ⊢
 have hs1 : W0.heap.size <= w1.heap.size := D.stp.size
 have hnf1 : Hid (∀ n, w.heap.size <= n -> n <= w.heap.size + 4 -> n ∉ S'.foot) := hid fun n h1 h2 => D.stp.not (hnf.out n h1) (by omega)
 have D1 := hid (D0.out.wrote D.stp.wrote (fun n h1 h2 => hnf.out n h1))
 have hpk0 := D.packs
 have hck0 := D.chgs
 rw [hnp] at hpk0
 rw [hnc] at hck0
 have hpk := hid hpk0;have hck := hid hck0;clear hpk0 hck0;have D := hid D;replace hnp := hid hnp;replace hnc := hid hnc;clear k1 k2 k3 k4
 go_wp2_with (first
  | (refine wS 53 2 rfl (w.heap.size + 1 + 1 + 1) _ #[.slice ap np cp, .slice ac nc cc] rfl rfl D1.out.d rfl rfl (by simp [Value.oneCell']) ?_; intro w2 hb2 hw2; have D2 := hid (D1.out.did hb2 hw2); have hw12 := hid hw2; clear hb2 hw2; have k1 : w2.cell? ⟨w.heap.size + 1, 1, none⟩ = some (.int .i64 a.qos) := D2.out.x.cell 1; have k2 : w2.cell? ⟨w.heap.size + 1, 2, none⟩ = some (.string ⟨a.topic.toArray⟩) := D2.out.x.cell 2; have k3 : w2.cell? ⟨w.heap.size + 1, 3, none⟩ = some (.string ⟨a.body.toArray⟩) := D2.out.x.cell 3; have k4 : w2.cell? ⟨w.heap.size + 1, 4, none⟩ = some (.bool a.truth) := D2.out.x.cell 4)
  | (refine wpList_load_blk rfl 97 _ rfl w.heap.size Z rfl D2.out.g Tryz.underlying97 rfl (by rw [SZ.size]; kernel_rfl) ?_))
 refine (CR.out _).mono ?_
 rintro e w3 ⟨no2, rfl, hb3⟩
 have D3 := hid (D2.out.bel hb3)
 have b3 := hid hb3;unfold didZ
 clear hb3 k1 k2 k3 k4
 go_wp2_with (first
  | (refine wS 97 22 rfl w.heap.size Z Z rfl rfl D3.out.g SZ.size SZ.size SZ.one ?_; intro w4 hb4 hw4; have D4 := hid (D3.out.ses hb4 hw4); have hw34 := hid hw4; clear hb4 hw4)
  | (refine wS 53 2 rfl (w.heap.size + 1 + 1 + 1 + 1) _ #[.slice none 0 0, .slice none 0 0] rfl rfl D4.out.w rfl rfl (by simp [Value.oneCell']) ?_; intro w5 hb5 hw5; have D5 := hid (D4.out.want hb5 hw5); have hw45 := hid hw5; clear hb5 hw5))
 have hw15 : Wrote [w.heap.size, w.heap.size + 1 + 1 + 1, w.heap.size + 1 + 1 + 1 + 1] w1 w5 := (((hw12.out.sub (by simp)).trans (Wrote.of_below b3.out)).trans (hw34.out.sub (by simp))).trans (hw45.out.sub (by simp))
 have hrn : Hid (0 = ([] : List PackV).length) := hid rfl
 have RQ : Hid (w5.ownsRow 0 81 24 (.slice none 0 0) 0 (([] : List PackV).flatMap PackV.cells)) := hid (World.ownsRow_nil _ _ _ _)
 cases is with
 | true =>
  exact bk_DoT_dtailF2
 | false =>
  exact bk_DoT_dtailT4
theorem does_came {w : World} {B : Nat} {S : XLay} {x : XS} (h : XB w B S x) (a : AcV) (hk : a.kind = 7) :
  Calls Tryz.prog 35 #[.pointer (some ⟨S.p, 0, none⟩), .agg zS, .agg a.cells] w (DoP w S (x.came a.n)) := by
 have CR := hid fun W => r23_Came a.n W
 have SZ := gs_zero
 obtain ⟨Z, hZ⟩ : ∃ Z, zS = Z := ⟨_, rfl⟩
 rw [hZ] at SZ ⊢
 obtain ⟨W0, hW0⟩ : ∃ W0, W0 = (((((w.alloc (.cells Z 97)).alloc (.cells a.cells 101)).alloc (.cells zS 97)).alloc (.cells didZ 53)).alloc (.cells didZ 53)) := ⟨_, rfl⟩
 have D0 := hid (D5.start w Z zS didZ didZ a rfl)
 rw [<- hW0] at D0
 have B0 : Below w.heap.size w W0 := by
  rw [hW0]
  exact belw
 have B0 := hid B0;have H0 := hid (h.below B0.out).top
 have hw0 : w.heap.size + 1 + 1 + 1 + 1 < W0.heap.size := D0.out.w.lt
 have hnf : ∀ n, w.heap.size <= n -> n ∉ S.foot := fun n hn => h.foot_lt hn
 replace hnf := hid hnf;have hgl := h.ob.tz.lt
 unfold zS AcV.cells didZ at hW0
 rw [hk] at hW0
 rw [hZ] at CR
 have CS := hid (ses_Came_any H0.out a.n)
 have hps : (x.came a.n).ps.length <= 100000 := by unfold XS.came; split <;> simp
 have hcs : (x.came a.n).cs.length <= 100000 := by unfold XS.came; split <;> simp
 obtain ⟨X, hX⟩ : ∃ X : XR, x.came a.n = X := ⟨_, rfl⟩
 rw [hX] at CS hps hcs ⊢
 have k11 : W0.cell? ⟨w.heap.size + 1, 11, none⟩ = some (.int .i64 a.n) := D0.out.x.cell 11
 go_enter Tryz.func35, Tryz.ntmps35
 unfold AcV.cells
 rw [hk]
 go_upto_region 17 with (fail)
 rw [<- hW0]
 clear hW0;go_wp2_with fail
 refine CS.out.mono ?_
 rintro e w1 ⟨vp, vc, is, no, rfl, S', D⟩
 obtain ⟨X1, ps, cs⟩ := X
 dsimp only at hps hcs
 replace hX := hid hX;have D0' := D
 obtain ⟨ap, cp, rfl⟩ := own_slice D0'.packs
 obtain ⟨ac, cc, rfl⟩ := own_slice D0'.chgs
 dsimp only at D D0' ⊢
 clear D0';obtain ⟨np, hnp⟩ : ∃ np, ps.length = np := ⟨_, rfl⟩
 obtain ⟨nc, hnc⟩ : ∃ nc, cs.length = nc := ⟨_, rfl⟩
 rw [hnp, hnc] at D ⊢
 have hs1 : W0.heap.size <= w1.heap.size := D.stp.size
 have hnf1 : Hid (∀ n, w.heap.size <= n -> n <= w.heap.size + 4 -> n ∉ S'.foot) := hid fun n h1 h2 => D.stp.not (hnf.out n h1) (by omega)
 have D1 := hid (D0.out.wrote D.stp.wrote (fun n h1 h2 => hnf.out n h1))
 have hpk0 := D.packs
 have hck0 := D.chgs
 rw [hnp] at hpk0
 rw [hnc] at hck0
 have hpk := hid hpk0;have hck := hid hck0;clear hpk0 hck0;have D := hid D;replace hnp := hid hnp;replace hnc := hid hnc;clear k11
 go_wp2_with (first
  | (refine wS 53 2 rfl (w.heap.size + 1 + 1 + 1) _ #[.slice ap np cp, .slice ac nc cc] rfl rfl D1.out.d rfl rfl (by simp [Value.oneCell']) ?_; intro w2 hb2 hw2; have D2 := hid (D1.out.did hb2 hw2); have hw12 := hid hw2; clear hb2 hw2; have k11 : w2.cell? ⟨w.heap.size + 1, 11, none⟩ = some (.int .i64 a.n) := D2.out.x.cell 11)
  | (refine wpList_load_blk rfl 97 _ rfl w.heap.size Z rfl D2.out.g Tryz.underlying97 rfl (by rw [SZ.size]; kernel_rfl) ?_))
 refine (CR.out _).mono ?_
 rintro e w3 ⟨no2, rfl, hb3⟩
 have D3 := hid (D2.out.bel hb3)
 have b3 := hid hb3;unfold didZ
 clear hb3 k11
 go_wp2_with (first
  | (refine wS 97 22 rfl w.heap.size Z Z rfl rfl D3.out.g SZ.size SZ.size SZ.one ?_; intro w4 hb4 hw4; have D4 := hid (D3.out.ses hb4 hw4); have hw34 := hid hw4; clear hb4 hw4)
  | (refine wS 53 2 rfl (w.heap.size + 1 + 1 + 1 + 1) _ #[.slice none 0 0, .slice none 0 0] rfl rfl D4.out.w rfl rfl (by simp [Value.oneCell']) ?_; intro w5 hb5 hw5; have D5 := hid (D4.out.want hb5 hw5); have hw45 := hid hw5; clear hb5 hw5))
 have hw15 : Wrote [w.heap.size, w.heap.size + 1 + 1 + 1, w.heap.size + 1 + 1 + 1 + 1] w1 w5 := (((hw12.out.sub (by simp)).trans (Wrote.of_below b3.out)).trans (hw34.out.sub (by simp))).trans (hw45.out.sub (by simp))
 have hrn : Hid (0 = ([] : List PackV).length) := hid rfl
 have RQ : Hid (w5.ownsRow 0 81 24 (.slice none 0 0) 0 (([] : List PackV).flatMap PackV.cells)) := hid (World.ownsRow_nil _ _ _ _)
 cases is with
 | true =>
  exact bk_DoT_dtailF2
 | false =>
  exact bk_DoT_dtailT4
theorem does_hear {w : World} {B : Nat} {S : XLay} {x : XS} (h : XB w B S x) (a : AcV) (hk : a.kind = 8) (hd : x.ids.Nodup) :
  Calls Tryz.prog 35 #[.pointer (some ⟨S.p, 0, none⟩), .agg zS, .agg a.cells] w (DoP w S (x.hear a.pack a.n)) := by
 have CR := hid fun W => r23_Hear a.pack a.n W
 have SZ := gs_zero
 obtain ⟨Z, hZ⟩ : ∃ Z, zS = Z := ⟨_, rfl⟩
 rw [hZ] at SZ ⊢
 obtain ⟨W0, hW0⟩ : ∃ W0, W0 = (((((w.alloc (.cells Z 97)).alloc (.cells a.cells 101)).alloc (.cells zS 97)).alloc (.cells didZ 53)).alloc (.cells didZ 53)) := ⟨_, rfl⟩
 have D0 := hid (D5.start w Z zS didZ didZ a rfl)
 rw [<- hW0] at D0
 have B0 : Below w.heap.size w W0 := by
  rw [hW0]
  exact belw
 have B0 := hid B0;have H0 := hid (h.below B0.out).top
 have hw0 : w.heap.size + 1 + 1 + 1 + 1 < W0.heap.size := D0.out.w.lt
 have hnf : ∀ n, w.heap.size <= n -> n ∉ S.foot := fun n hn => h.foot_lt hn
 replace hnf := hid hnf;have hgl := h.ob.tz.lt
 unfold zS AcV.cells didZ at hW0
 rw [hk] at hW0
 unfold RefS at CR
 rw [hZ] at CR
 have CS := hid (ses_Hear_any H0.out hd a.pack a.n)
 have hln := hear_len x a.pack a.n (by have := h.ob.ok.room; omega)
 have hps := hln.1
 have hcs := hln.2
 clear hln;obtain ⟨X, hX⟩ : ∃ X : XR, x.hear a.pack a.n = X := ⟨_, rfl⟩
 rw [hX] at CS hps hcs ⊢
 have k10 : W0.cell? ⟨w.heap.size + 1, 10, none⟩ = some (.int .i64 a.pack) := D0.out.x.cell 10
 have k11 : W0.cell? ⟨w.heap.size + 1, 11, none⟩ = some (.int .i64 a.n) := D0.out.x.cell 11
 go_enter Tryz.func35, Tryz.ntmps35
 unfold AcV.cells
 rw [hk]
 go_upto_region 20 with (fail)
 rw [<- hW0]
 clear hW0;go_wp2_with fail
 refine CS.out.mono ?_
 rintro e w1 ⟨vp, vc, no, rfl, S', D⟩
 obtain ⟨X1, ps, cs⟩ := X
 dsimp only at hps hcs
 replace hX := hid hX;have D0' := D
 obtain ⟨ap, cp, rfl⟩ := own_slice D0'.packs
 obtain ⟨ac, cc, rfl⟩ := own_slice D0'.chgs
 dsimp only at D D0' ⊢
 clear D0';obtain ⟨np, hnp⟩ : ∃ np, ps.length = np := ⟨_, rfl⟩
 obtain ⟨nc, hnc⟩ : ∃ nc, cs.length = nc := ⟨_, rfl⟩
 rw [hnp, hnc] at D ⊢
 have hs1 : W0.heap.size <= w1.heap.size := D.stp.size
 have hnf1 : Hid (∀ n, w.heap.size <= n -> n <= w.heap.size + 4 -> n ∉ S'.foot) := hid fun n h1 h2 => D.stp.not (hnf.out n h1) (by omega)
 have D1 := hid (D0.out.wrote D.stp.wrote (fun n h1 h2 => hnf.out n h1))
 have hpk0 := D.packs
 have hck0 := D.chgs
 rw [hnp] at hpk0
 rw [hnc] at hck0
 have hpk := hid hpk0;have hck := hid hck0;clear hpk0 hck0;have D := hid D;replace hnp := hid hnp;replace hnc := hid hnc;clear k10 k11
 go_wp2_with (first
  | (refine wS 53 2 rfl (w.heap.size + 1 + 1 + 1) _ #[.slice ap np cp, .slice ac nc cc] rfl rfl D1.out.d rfl rfl (by simp [Value.oneCell']) ?_; intro w2 hb2 hw2; have D2 := hid (D1.out.did hb2 hw2); have hw12 := hid hw2; clear hb2 hw2; have k10 : w2.cell? ⟨w.heap.size + 1, 10, none⟩ = some (.int .i64 a.pack) := D2.out.x.cell 10; have k11 : w2.cell? ⟨w.heap.size + 1, 11, none⟩ = some (.int .i64 a.n) := D2.out.x.cell 11)
  | (refine wpList_load_blk rfl 97 _ rfl w.heap.size Z rfl D2.out.g Tryz.underlying97 rfl (by rw [SZ.size]; kernel_rfl) ?_))
 refine (CR.out _).mono ?_
 rintro e w3 ⟨ra, rn, rc, no2, qs, rfl, hrn, hrq, hb3⟩
 have D3 := hid (D2.out.bel hb3)
 have b3 := hid hb3;replace hrn := hid hrn;have hrq := hid hrq;clear hb3 k10 k11
 go_wp2_with (first
  | (refine wS 97 22 rfl w.heap.size Z Z rfl rfl D3.out.g SZ.size SZ.size SZ.one ?_; intro w4 hb4 hw4; have D4 := hid (D3.out.ses hb4 hw4); have hw34 := hid hw4; clear hb4 hw4)
  | (refine wS 53 2 rfl (w.heap.size + 1 + 1 + 1 + 1) _ #[.slice ra rn rc, .slice none 0 0] rfl rfl D4.out.w rfl rfl (by simp [Value.oneCell']) ?_; intro w5 hb5 hw5; have D5 := hid (D4.out.want hb5 hw5); have hw45 := hid hw5; clear hb5 hw5))
 have hw15 : Wrote [w.heap.size, w.heap.size + 1 + 1 + 1, w.heap.size + 1 + 1 + 1 + 1] w1 w5 := (((hw12.out.sub (by simp)).trans (Wrote.of_below b3.out)).trans (hw34.out.sub (by simp))).trans (hw45.out.sub (by simp))
 have hs2 : w1.heap.size <= w2.heap.size := hw12.out.size
 have RQ : Hid (w5.ownsRow 0 81 24 (.slice ra rn rc) rn (qs.flatMap PackV.cells)) := hid (ownsRow_mono (not_own (not_own hrq.out hw34.out (fun y hy hb => by have h1 := (hrq.out.lt y (mem_blk.1 hb)).1; simp only [List.mem_singleton] at hy; omega)) hw45.out (fun y hy hb => by have h1 := (hrq.out.lt y (mem_blk.1 hb)).1; simp only [List.mem_singleton] at hy; omega)) (Nat.zero_le _))
 exact bk_DoT_dtailT5
end
end Go.Proofs.YtoinabapaeebfaaGreatDoor
