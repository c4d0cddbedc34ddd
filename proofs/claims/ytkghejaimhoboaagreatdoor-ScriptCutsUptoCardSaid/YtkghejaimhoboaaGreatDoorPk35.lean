/- Parts of the proof of ScriptCuts: contracts of functions that it reaches, and plain lemmas. No condition of their own. -/
import Derived.Test.YtkghejaimhoboaaGreatDoorPk31
import Derived.Test.YtkghejaimhoboaaGreatDoorPk34
import Derived.Test.YtkghejaimhoboaaGreatDoorPk16
import Derived.Test.YtkghejaimhoboaaGreatDoorPk14
import Derived.Test.YtkghejaimhoboaaGreatDoorPk33
set_option linter.unusedSimpArgs false
set_option linter.unusedVariables false
set_option maxRecDepth 100000
set_option maxHeartbeats 8000000
namespace Go.Proofs.YtkghejaimhoboaaGreatDoor
open Go.RowKit Go.Shelf
section
attribute [local go_sem] Oper.semAt_some
theorem build_con (p : Pk) (W : World) : (Instr.build 52 #[(7, .string ⟨p.client.toArray⟩), (8, .bool p.clean), (9, .int .i64 p.keep), (10, .bool p.hasWill), (11, .agg #[.string ⟨p.will.topic.toArray⟩, .string ⟨p.will.body.toArray⟩, .int .i64 p.will.qos, .bool p.will.retain]), (12, .bool p.hasUser), (13, .bool p.hasPass), (14, .string ⟨p.user.toArray⟩), (15, .string ⟨p.pass.toArray⟩)]).run Tryz.prog W = .ok (.agg (({ zPk 0 with client := p.client, clean := p.clean, keep := p.keep, hasWill := p.hasWill, will := p.will, hasUser := p.hasUser, hasPass := p.hasPass, user := p.user, pass := p.pass } : Pk).cells h3Z).toArray) W := by kernel_rfl
theorem pk_hasCon (p : Pk) (h : H3) (w : World) : Calls Tryz.prog 200 #[.agg (p.cells h).toArray] w fun e w' => e = .returned (.agg (({ zPk 0 with client := p.client, clean := p.clean, keep := p.keep, hasWill := p.hasWill, hasUser := p.hasUser, hasPass := p.hasPass, user := p.user, pass := p.pass, will := p.will } : Pk).cells h3Z).toArray) /\ Below w.heap.size w w' := by
 obtain ⟨cs, hcs⟩ : ∃ cs, (p.cells h).toArray = cs := ⟨_, rfl⟩
 have hB : Blk (w.alloc (.cells cs 52)) w.heap.size cs 52 := Blk.new _ _ _
 have hB2 : Blk ((w.alloc (.cells cs 52)).alloc (.cells zPc 52)) w.heap.size cs 52 := hB.alloc _
 have hZ : Blk ((w.alloc (.cells cs 52)).alloc (.cells zPc 52)) (w.heap.size + 1) zPc 52 := by
  have := Blk.new (w.alloc (.cells cs 52)) zPc 52
  simpa using this
 have hb2 : Below w.heap.size w ((w.alloc (.cells cs 52)).alloc (.cells zPc 52)) := ((Below.refl _ _).alloc (Nat.le_refl _) _).alloc (by simp) _
 have k7 : ∀ o, ((w.alloc (.cells cs 52)).alloc o).cell? ⟨w.heap.size, 7, none⟩ = some (.string ⟨p.client.toArray⟩) := fun o => by rw [(hB.alloc o).cell, <- hcs]; rfl
 have k8 : ∀ o, ((w.alloc (.cells cs 52)).alloc o).cell? ⟨w.heap.size, 8, none⟩ = some (.bool p.clean) := fun o => by rw [(hB.alloc o).cell, <- hcs]; rfl
 have k9 : ∀ o, ((w.alloc (.cells cs 52)).alloc o).cell? ⟨w.heap.size, 9, none⟩ = some (.int .i64 p.keep) := fun o => by rw [(hB.alloc o).cell, <- hcs]; rfl
 have k10 : ∀ o, ((w.alloc (.cells cs 52)).alloc o).cell? ⟨w.heap.size, 10, none⟩ = some (.bool p.hasWill) := fun o => by rw [(hB.alloc o).cell, <- hcs]; rfl
 have k15 : ∀ o, ((w.alloc (.cells cs 52)).alloc o).cell? ⟨w.heap.size, 15, none⟩ = some (.bool p.hasUser) := fun o => by rw [(hB.alloc o).cell, <- hcs]; rfl
 have k16 : ∀ o, ((w.alloc (.cells cs 52)).alloc o).cell? ⟨w.heap.size, 16, none⟩ = some (.bool p.hasPass) := fun o => by rw [(hB.alloc o).cell, <- hcs]; rfl
 have k17 : ∀ o, ((w.alloc (.cells cs 52)).alloc o).cell? ⟨w.heap.size, 17, none⟩ = some (.string ⟨p.user.toArray⟩) := fun o => by rw [(hB.alloc o).cell, <- hcs]; rfl
 have k18 : ∀ o, ((w.alloc (.cells cs 52)).alloc o).cell? ⟨w.heap.size, 18, none⟩ = some (.string ⟨p.pass.toArray⟩) := fun o => by rw [(hB.alloc o).cell, <- hcs]; rfl
 have hwl := hB2.mid ((p.cells h).take 11) [.string ⟨p.will.topic.toArray⟩, .string ⟨p.will.body.toArray⟩, .int .i64 p.will.qos, .bool p.will.retain] ((p.cells h).drop 15) (by rw [<- hcs]; rfl)
 have hone := hid (Pk.one ({ zPk 0 with client := p.client, clean := p.clean, keep := p.keep, hasWill := p.hasWill, hasUser := p.hasUser, hasPass := p.hasPass, user := p.user, pass := p.pass, will := p.will }) (h3Z))
 rw [hcs]
 clear hcs hB hB2;replace hb2 := hid hb2;unfold zPc at *
 go_enter Tryz.func200, Tryz.ntmps200
 go_wp2_with (first
  | (refine wS 52 24 rfl (w.heap.size + 1) _ _ rfl rfl hZ rfl rfl hone.out ?_; intro w2 hw2 hr2)
  | (refine wLm 47 rfl rfl hwl Tryz.underlying47 ?_)
  | (refine wBuild 52 rfl #[(7, .string ⟨p.client.toArray⟩), (8, .bool p.clean), (9, .int .i64 p.keep), (10, .bool p.hasWill), (11, .agg #[.string ⟨p.will.topic.toArray⟩, .string ⟨p.will.body.toArray⟩, .int .i64 p.will.qos, .bool p.will.retain]), (12, .bool p.hasUser), (13, .bool p.hasPass), (14, .string ⟨p.user.toArray⟩), (15, .string ⟨p.pass.toArray⟩)] rfl _ (build_con p) ?_))
 refine bodyPost_ret (results_cell1 Tryz.results200 rfl (run_loadVar_blk hw2 52 Tryz.underlying52 rfl (by kernel_rfl))) rfl ⟨rfl, hb2.out.trans (hr2.below (by simp; omega) (by simp))⟩
theorem pk_hasPub (p : Pk) (h : H3) (w : World) : Calls Tryz.prog 205 #[.agg (p.cells h).toArray] w fun e w' => e = .returned (.agg (({ zPk 0 with topic := p.topic, body := p.body, qos := p.qos, retain := p.retain, id := p.id, dup := p.dup } : Pk).cells h3Z).toArray) /\ Below w.heap.size w w' := by
 obtain ⟨cs, hcs⟩ : ∃ cs, (p.cells h).toArray = cs := ⟨_, rfl⟩
 have hB : Blk (w.alloc (.cells cs 52)) w.heap.size cs 52 := Blk.new _ _ _
 have hB2 : Blk ((w.alloc (.cells cs 52)).alloc (.cells zPc 52)) w.heap.size cs 52 := hB.alloc _
 have hZ : Blk ((w.alloc (.cells cs 52)).alloc (.cells zPc 52)) (w.heap.size + 1) zPc 52 := by
  have := Blk.new (w.alloc (.cells cs 52)) zPc 52
  simpa using this
 have hb2 : Below w.heap.size w ((w.alloc (.cells cs 52)).alloc (.cells zPc 52)) := ((Below.refl _ _).alloc (Nat.le_refl _) _).alloc (by simp) _
 have k4 : ∀ o, ((w.alloc (.cells cs 52)).alloc o).cell? ⟨w.heap.size, 4, none⟩ = some (.string ⟨p.topic.toArray⟩) := fun o => by rw [(hB.alloc o).cell, <- hcs]; rfl
 have k5 : ∀ o, ((w.alloc (.cells cs 52)).alloc o).cell? ⟨w.heap.size, 5, none⟩ = some (.string ⟨p.body.toArray⟩) := fun o => by rw [(hB.alloc o).cell, <- hcs]; rfl
 have k3 : ∀ o, ((w.alloc (.cells cs 52)).alloc o).cell? ⟨w.heap.size, 3, none⟩ = some (.int .i64 p.qos) := fun o => by rw [(hB.alloc o).cell, <- hcs]; rfl
 have k2 : ∀ o, ((w.alloc (.cells cs 52)).alloc o).cell? ⟨w.heap.size, 2, none⟩ = some (.bool p.retain) := fun o => by rw [(hB.alloc o).cell, <- hcs]; rfl
 have k6 : ∀ o, ((w.alloc (.cells cs 52)).alloc o).cell? ⟨w.heap.size, 6, none⟩ = some (.int .i64 p.id) := fun o => by rw [(hB.alloc o).cell, <- hcs]; rfl
 have k1 : ∀ o, ((w.alloc (.cells cs 52)).alloc o).cell? ⟨w.heap.size, 1, none⟩ = some (.bool p.dup) := fun o => by rw [(hB.alloc o).cell, <- hcs]; rfl
 have hone := hid (Pk.one ({ zPk 0 with topic := p.topic, body := p.body, qos := p.qos, retain := p.retain, id := p.id, dup := p.dup }) (h3Z))
 rw [hcs]
 clear hcs hB hB2;replace hb2 := hid hb2;unfold zPc at *
 go_enter Tryz.func205, Tryz.ntmps205
 go_wp2_with (first
  | (refine wS 52 24 rfl (w.heap.size + 1) _ _ rfl rfl hZ rfl rfl hone.out ?_; intro w2 hw2 hr2))
 refine bodyPost_ret (results_cell1 Tryz.results205 rfl (run_loadVar_blk hw2 52 Tryz.underlying52 rfl (by kernel_rfl))) rfl ⟨rfl, hb2.out.trans (hr2.below (by simp; omega) (by simp))⟩
theorem pk_hasEmp (p : Pk) (h : H3) (w : World) : Calls Tryz.prog 121 #[.agg (p.cells h).toArray] w fun e w' => e = .returned (.agg ((zPk 0 : Pk).cells h3Z).toArray) /\ Below w.heap.size w w' := by
 obtain ⟨cs, hcs⟩ : ∃ cs, (p.cells h).toArray = cs := ⟨_, rfl⟩
 have hB : Blk (w.alloc (.cells cs 52)) w.heap.size cs 52 := Blk.new _ _ _
 have hB2 : Blk ((w.alloc (.cells cs 52)).alloc (.cells zPc 52)) w.heap.size cs 52 := hB.alloc _
 have hZ : Blk ((w.alloc (.cells cs 52)).alloc (.cells zPc 52)) (w.heap.size + 1) zPc 52 := by
  have := Blk.new (w.alloc (.cells cs 52)) zPc 52
  simpa using this
 have hb2 : Below w.heap.size w ((w.alloc (.cells cs 52)).alloc (.cells zPc 52)) := ((Below.refl _ _).alloc (Nat.le_refl _) _).alloc (by simp) _
 have hone := hid (Pk.one (zPk 0) (h3Z))
 rw [hcs]
 clear hcs hB hB2;replace hb2 := hid hb2;unfold zPc at *
 go_enter Tryz.func121, Tryz.ntmps121
 go_wp2_with (first
  | (refine wS 52 24 rfl (w.heap.size + 1) _ _ rfl rfl hZ rfl rfl hone.out ?_; intro w2 hw2 hr2))
 refine bodyPost_ret (results_cell1 Tryz.results121 rfl (run_loadVar_blk hw2 52 Tryz.underlying52 rfl (by kernel_rfl))) rfl ⟨rfl, hb2.out.trans (hr2.below (by simp; omega) (by simp))⟩
theorem pk_hasAck (p : Pk) (h : H3) (w : World) : Calls Tryz.prog 125 #[.agg (p.cells h).toArray] w fun e w' => e = .returned (.agg (({ zPk 0 with code := p.code, present := p.present } : Pk).cells h3Z).toArray) /\ Below w.heap.size w w' := by
 obtain ⟨cs, hcs⟩ : ∃ cs, (p.cells h).toArray = cs := ⟨_, rfl⟩
 have hB : Blk (w.alloc (.cells cs 52)) w.heap.size cs 52 := Blk.new _ _ _
 have hB2 : Blk ((w.alloc (.cells cs 52)).alloc (.cells zPc 52)) w.heap.size cs 52 := hB.alloc _
 have hZ : Blk ((w.alloc (.cells cs 52)).alloc (.cells zPc 52)) (w.heap.size + 1) zPc 52 := by
  have := Blk.new (w.alloc (.cells cs 52)) zPc 52
  simpa using this
 have hb2 : Below w.heap.size w ((w.alloc (.cells cs 52)).alloc (.cells zPc 52)) := ((Below.refl _ _).alloc (Nat.le_refl _) _).alloc (by simp) _
 have k20 : ∀ o, ((w.alloc (.cells cs 52)).alloc o).cell? ⟨w.heap.size, 20, none⟩ = some (.int .i64 p.code) := fun o => by rw [(hB.alloc o).cell, <- hcs]; rfl
 have k19 : ∀ o, ((w.alloc (.cells cs 52)).alloc o).cell? ⟨w.heap.size, 19, none⟩ = some (.bool p.present) := fun o => by rw [(hB.alloc o).cell, <- hcs]; rfl
 have hone := hid (Pk.one ({ zPk 0 with code := p.code, present := p.present }) (h3Z))
 rw [hcs]
 clear hcs hB hB2;replace hb2 := hid hb2;unfold zPc at *
 go_enter Tryz.func125, Tryz.ntmps125
 go_wp2_with (first
  | (refine wS 52 24 rfl (w.heap.size + 1) _ _ rfl rfl hZ rfl rfl hone.out ?_; intro w2 hw2 hr2))
 refine bodyPost_ret (results_cell1 Tryz.results125 rfl (run_loadVar_blk hw2 52 Tryz.underlying52 rfl (by kernel_rfl))) rfl ⟨rfl, hb2.out.trans (hr2.below (by simp; omega) (by simp))⟩
theorem pk_hasAns (p : Pk) (h : H3) (w : World) : Calls Tryz.prog 211 #[.agg (p.cells h).toArray] w fun e w' => e = .returned (.agg ((zPk 0 : Pk).cells h3Z).toArray) /\ Below w.heap.size w w' := by
 obtain ⟨cs, hcs⟩ : ∃ cs, (p.cells h).toArray = cs := ⟨_, rfl⟩
 have hB : Blk (w.alloc (.cells cs 52)) w.heap.size cs 52 := Blk.new _ _ _
 have hB2 : Blk ((w.alloc (.cells cs 52)).alloc (.cells zPc 52)) w.heap.size cs 52 := hB.alloc _
 have hZ : Blk ((w.alloc (.cells cs 52)).alloc (.cells zPc 52)) (w.heap.size + 1) zPc 52 := by
  have := Blk.new (w.alloc (.cells cs 52)) zPc 52
  simpa using this
 have hb2 : Below w.heap.size w ((w.alloc (.cells cs 52)).alloc (.cells zPc 52)) := ((Below.refl _ _).alloc (Nat.le_refl _) _).alloc (by simp) _
 have hone := hid (Pk.one (zPk 0) (h3Z))
 rw [hcs]
 clear hcs hB hB2;replace hb2 := hid hb2;unfold zPc at *
 go_enter Tryz.func211, Tryz.ntmps211
 go_wp2_with (first
  | (refine wS 52 24 rfl (w.heap.size + 1) _ _ rfl rfl hZ rfl rfl hone.out ?_; intro w2 hw2 hr2))
 refine bodyPost_ret (results_cell1 Tryz.results211 rfl (run_loadVar_blk hw2 52 Tryz.underlying52 rfl (by kernel_rfl))) rfl ⟨rfl, hb2.out.trans (hr2.below (by simp; omega) (by simp))⟩
theorem pk_hasSub (p : Pk) (h : H3) (w : World) : Calls Tryz.prog 131 #[.agg (p.cells h).toArray] w fun e w' => e = .returned (.agg (({ zPk 0 with wants := p.wants } : Pk).cells ⟨h.w, hdZ, hdZ⟩).toArray) /\ Below w.heap.size w w' := by
 obtain ⟨cs, hcs⟩ : ∃ cs, (p.cells h).toArray = cs := ⟨_, rfl⟩
 have hB : Blk (w.alloc (.cells cs 52)) w.heap.size cs 52 := Blk.new _ _ _
 have hB2 : Blk ((w.alloc (.cells cs 52)).alloc (.cells zPc 52)) w.heap.size cs 52 := hB.alloc _
 have hZ : Blk ((w.alloc (.cells cs 52)).alloc (.cells zPc 52)) (w.heap.size + 1) zPc 52 := by
  have := Blk.new (w.alloc (.cells cs 52)) zPc 52
  simpa using this
 have hb2 : Below w.heap.size w ((w.alloc (.cells cs 52)).alloc (.cells zPc 52)) := ((Below.refl _ _).alloc (Nat.le_refl _) _).alloc (by simp) _
 have k21 : ∀ o, ((w.alloc (.cells cs 52)).alloc o).cell? ⟨w.heap.size, 21, none⟩ = some (.slice h.w.a h.w.n h.w.c) := fun o => by rw [(hB.alloc o).cell, <- hcs]; rfl
 have hone := hid (Pk.one ({ zPk 0 with wants := p.wants }) (⟨h.w, hdZ, hdZ⟩))
 rw [hcs]
 clear hcs hB hB2;replace hb2 := hid hb2;unfold zPc at *
 go_enter Tryz.func131, Tryz.ntmps131
 go_wp2_with (first
  | (refine wS 52 24 rfl (w.heap.size + 1) _ _ rfl rfl hZ rfl rfl hone.out ?_; intro w2 hw2 hr2))
 refine bodyPost_ret (results_cell1 Tryz.results131 rfl (run_loadVar_blk hw2 52 Tryz.underlying52 rfl (by kernel_rfl))) rfl ⟨rfl, hb2.out.trans (hr2.below (by simp; omega) (by simp))⟩
theorem pk_hasSua (p : Pk) (h : H3) (w : World) : Calls Tryz.prog 142 #[.agg (p.cells h).toArray] w fun e w' => e = .returned (.agg (({ zPk 0 with codes := p.codes } : Pk).cells ⟨hdZ, h.c, hdZ⟩).toArray) /\ Below w.heap.size w w' := by
 obtain ⟨cs, hcs⟩ : ∃ cs, (p.cells h).toArray = cs := ⟨_, rfl⟩
 have hB : Blk (w.alloc (.cells cs 52)) w.heap.size cs 52 := Blk.new _ _ _
 have hB2 : Blk ((w.alloc (.cells cs 52)).alloc (.cells zPc 52)) w.heap.size cs 52 := hB.alloc _
 have hZ : Blk ((w.alloc (.cells cs 52)).alloc (.cells zPc 52)) (w.heap.size + 1) zPc 52 := by
  have := Blk.new (w.alloc (.cells cs 52)) zPc 52
  simpa using this
 have hb2 : Below w.heap.size w ((w.alloc (.cells cs 52)).alloc (.cells zPc 52)) := ((Below.refl _ _).alloc (Nat.le_refl _) _).alloc (by simp) _
 have k22 : ∀ o, ((w.alloc (.cells cs 52)).alloc o).cell? ⟨w.heap.size, 22, none⟩ = some (.slice h.c.a h.c.n h.c.c) := fun o => by rw [(hB.alloc o).cell, <- hcs]; rfl
 have hone := hid (Pk.one ({ zPk 0 with codes := p.codes }) (⟨hdZ, h.c, hdZ⟩))
 rw [hcs]
 clear hcs hB hB2;replace hb2 := hid hb2;unfold zPc at *
 go_enter Tryz.func142, Tryz.ntmps142
 go_wp2_with (first
  | (refine wS 52 24 rfl (w.heap.size + 1) _ _ rfl rfl hZ rfl rfl hone.out ?_; intro w2 hw2 hr2))
 refine bodyPost_ret (results_cell1 Tryz.results142 rfl (run_loadVar_blk hw2 52 Tryz.underlying52 rfl (by kernel_rfl))) rfl ⟨rfl, hb2.out.trans (hr2.below (by simp; omega) (by simp))⟩
theorem pk_hasUns (p : Pk) (h : H3) (w : World) : Calls Tryz.prog 150 #[.agg (p.cells h).toArray] w fun e w' => e = .returned (.agg (({ zPk 0 with filters := p.filters } : Pk).cells ⟨hdZ, hdZ, h.f⟩).toArray) /\ Below w.heap.size w w' := by
 obtain ⟨cs, hcs⟩ : ∃ cs, (p.cells h).toArray = cs := ⟨_, rfl⟩
 have hB : Blk (w.alloc (.cells cs 52)) w.heap.size cs 52 := Blk.new _ _ _
 have hB2 : Blk ((w.alloc (.cells cs 52)).alloc (.cells zPc 52)) w.heap.size cs 52 := hB.alloc _
 have hZ : Blk ((w.alloc (.cells cs 52)).alloc (.cells zPc 52)) (w.heap.size + 1) zPc 52 := by
  have := Blk.new (w.alloc (.cells cs 52)) zPc 52
  simpa using this
 have hb2 : Below w.heap.size w ((w.alloc (.cells cs 52)).alloc (.cells zPc 52)) := ((Below.refl _ _).alloc (Nat.le_refl _) _).alloc (by simp) _
 have k23 : ∀ o, ((w.alloc (.cells cs 52)).alloc o).cell? ⟨w.heap.size, 23, none⟩ = some (.slice h.f.a h.f.n h.f.c) := fun o => by rw [(hB.alloc o).cell, <- hcs]; rfl
 have hone := hid (Pk.one ({ zPk 0 with filters := p.filters }) (⟨hdZ, hdZ, h.f⟩))
 rw [hcs]
 clear hcs hB hB2;replace hb2 := hid hb2;unfold zPc at *
 go_enter Tryz.func150, Tryz.ntmps150
 go_wp2_with (first
  | (refine wS 52 24 rfl (w.heap.size + 1) _ _ rfl rfl hZ rfl rfl hone.out ?_; intro w2 hw2 hr2))
 refine bodyPost_ret (results_cell1 Tryz.results150 rfl (run_loadVar_blk hw2 52 Tryz.underlying52 rfl (by kernel_rfl))) rfl ⟨rfl, hb2.out.trans (hr2.below (by simp; omega) (by simp))⟩
theorem pk_hasList (f : FuncId) (b : Nat) (p : Pk) (h : H3) (y : Pk) (hy : H3) (w : World) (hf : fnC f) (hb : Boxed w (b + 1) 145 (fnV f #[])) (hc : ∀ W, Calls Tryz.prog f #[.agg (p.cells h).toArray] W fun e w' => e = .returned (.agg (y.cells hy).toArray) /\ Below W.heap.size W w') :
  Calls Tryz.prog 184 #[.agg (p.cells h).toArray, .pointer (some ⟨b + 1, 0, none⟩)] w fun e w' => e = .returned (.agg (({ y with id := p.id } : Pk).cells hy).toArray) /\ Below w.heap.size w w' := by
 obtain ⟨cs, hcs⟩ : ∃ cs, (p.cells h).toArray = cs := ⟨_, rfl⟩
 have hB : Blk (w.alloc (.cells cs 52)) w.heap.size cs 52 := Blk.new _ _ _
 have hb1 : Below w.heap.size w (w.alloc (.cells cs 52)) := (Below.refl _ _).alloc (Nat.le_refl _) _
 rw [hcs] at hc ⊢
 obtain ⟨W0, hW0⟩ : ∃ W0, w.alloc (.cells cs 52) = W0 := ⟨_, rfl⟩
 have s0 : W0.heap.size = w.heap.size + 1 := by rw [<- hW0]; simp
 rw [hW0] at hB hb1
 obtain ⟨W1, hW1⟩ : ∃ W1, W0.alloc (.cells zPc 52) = W1 := ⟨_, rfl⟩
 have s1 : W1.heap.size = w.heap.size + 2 := by rw [<- hW1]; simp; omega
 have hb2 : Below w.heap.size w W1 := by rw [<- hW1]; exact hb1.alloc hb1.size _
 have x1 : Blk W1 w.heap.size cs 52 := by rw [<- hW1]; exact hB.alloc _
 have z1 : Blk W1 (w.heap.size + 1) zPc 52 := by
  have := Blk.new W0 zPc 52
  rw [hW1, s0] at this
  exact this
 have k0 : W1.cell? ⟨b + 1, 0, none⟩ = some (fnV f #[]) := (boxed_below hb hb2).cell
 have ic : (Tryz.prog.info? 52).map (·.size) = some cs.size := by rw [<- hcs]; exact (by kernel_rfl : (Tryz.prog.info? 52).map (·.size) = some 24)
 have CC := hid (hc W1)
 have kid : Hid (∀ W, Blk W w.heap.size cs 52 -> W.cell? ⟨w.heap.size, 6, none⟩ = some (.int .i64 p.id)) := hid fun W h => by rw [h.cell, <- hcs]; rfl
 obtain ⟨yc, hyc⟩ : ∃ yc, (y.cells hy).toArray = yc := ⟨_, rfl⟩
 have hone : Hid (∀ v ∈ yc.toList, v.oneCell' = true) := hid (by rw [<- hyc]; exact Pk.one y hy)
 have hys : Hid (yc.size = 24) := hid (by rw [<- hyc]; rfl)
 have hset : Hid (yc.setIfInBounds 6 (.int .i64 p.id) = (({ y with id := p.id } : Pk).cells hy).toArray) := hid (by rw [<- hyc]; rfl)
 obtain ⟨yd, hyd⟩ : ∃ yd, (({ y with id := p.id } : Pk).cells hy).toArray = yd := ⟨_, rfl⟩
 have hyo : Hid (∀ v ∈ yd.toList, v.oneCell' = true) := hid (by rw [<- hyd]; exact Pk.one _ hy)
 have hyz : Hid (yd.size = 24) := hid (by rw [<- hyd]; rfl)
 rw [hyd] at hset ⊢
 rw [hyc] at CC
 replace ic := hid ic;replace hb2 := hid hb2;replace z1 := hid z1;unfold fnV at k0
 unfold fnC at hf
 replace hW1 : W0.alloc (.cells #[.int .i64 0, .bool false, .bool false, .int .i64 0, .string ⟨#[]⟩, .string ⟨#[]⟩, .int .i64 0, .string ⟨#[]⟩, .bool false, .int .i64 0, .bool false, .string ⟨#[]⟩, .string ⟨#[]⟩, .int .i64 0, .bool false, .bool false, .bool false, .string ⟨#[]⟩, .string ⟨#[]⟩, .bool false, .int .i64 0, .slice none 0 0, .slice none 0 0, .slice none 0 0] 52) = W1 := hW1
 clear hcs hyc hyd hc hB hb1 hb;go_enter Tryz.func184, Tryz.ntmps184
 have tok := hid trivial;go_upto_region 1 with fail
 go_wp2_with (clear tok; refine wL 52 rfl rfl x1 Tryz.underlying52 ?_ rfl rfl ic.out)
 refine CC.out.mono ?_
 rintro e w2 ⟨rfl, hb3⟩
 have x2 := hid (x1.below hb3)
 have z2 := hid (z1.out.below hb3)
 have HB := hid (hb2.out.trans (hb3.mono hb2.out.size))
 have hs2 := hb3.size
 clear x1 k0 hb3;go_upto_region 2 with (refine wS 52 24 rfl _ _ yc rfl rfl (Blk.new _ _ _) hys.out (by rfl) hone.out ?_; intro w3 hw3 hr3)
 have b3 : Below w2.heap.size w2 w3 := ((Below.refl _ _).alloc (Nat.le_refl _) _).trans (hr3.below (by simp) (by simp))
 have hs3 : w2.heap.size + 1 <= w3.heap.size := by have := hr3.size; simp at this; omega
 have x3 := x2.out.below b3
 have z3 := z2.out.below b3
 have HB3 := hid (HB.out.trans (b3.mono HB.out.size))
 have kc := kid.out _ x3
 have Z3 := hid z3;clear hr3 b3 x3 z3;try simp only [PT]
 go_upto_region 3 with (refine wpList_store_cell rfl 2 52 _ _ rfl (fun w => by kernel_rfl) w2.heap.size 6 yc (.int .i64 p.id) rfl rfl hw3 (by rw [hys.out]; decide) rfl rfl ?_; intro w4 hw4 hr4)
 rw [hset.out] at hw4
 have z4 := hid (Z3.out.keepW hr4 (by simp; omega))
 have HB4 := hid (HB3.out.trans (hr4.below HB3.out.size (by simp; omega)))
 have id2 : Hid ((Tryz.prog.info? 52).map (·.size) = some yd.size) := hid (by rw [hyz.out]; exact (by kernel_rfl : (Tryz.prog.info? 52).map (·.size) = some 24))
 clear hr4 hw3 kc;try simp only [PT]
 go_wp2_with (first
  | (refine wL 52 rfl rfl hw4 Tryz.underlying52 ?_ rfl rfl id2.out)
  | (refine wS 52 24 rfl (w.heap.size + 1) _ yd rfl rfl z4.out hyz.out rfl hyo.out ?_; intro w5 hw5 hr5))
 refine bodyPost_ret (results_cell1 Tryz.results184 rfl (run_loadVar_blk hw5 52 Tryz.underlying52 rfl id2.out)) rfl ?_
 exact ⟨rfl, HB4.out.trans (hr5.below HB4.out.size (by simp))⟩
end
section
section
variable {α : Type} {tk : List UInt8 -> Option (α × List UInt8)}
theorem rAll_nil (n : Nat) : rAll tk n [] = some [] := by cases n <;> simp [rAll]
theorem rAll_cons {n : Nat} {l : List UInt8} (h : l ≠ []) : rAll tk (n + 1) l = (tk l).bind fun x => (rAll tk n x.2).bind fun r => some (x.1 :: r) := by rw [rAll, if_neg h]
theorem rAll_fuel (hs : ∀ l x r, tk l = some (x, r) -> r.length < l.length) : ∀ (k n : Nat) (l : List UInt8), l.length <= k -> l.length <= n -> rAll tk n l = rAll tk l.length l
 | k, n, [], _, _ => by rw [rAll_nil, rAll_nil]
 | 0, n, x :: l, h, _ => by simp at h
 | k + 1, 0, x :: l, _, h => by simp at h
 | k + 1, n + 1, x :: l, hk, hn => by
  rw [rAll_cons (by simp), List.length_cons, rAll_cons (by simp)]
  cases h : tk (x :: l) with
  | none => rfl
  | some y =>
   have h1 := hs _ y.1 y.2 h
   simp only [List.length_cons] at h1 hk hn
   rw [Option.bind_some, Option.bind_some, rAll_fuel hs k n y.2 (by omega) (by omega), rAll_fuel hs k l.length y.2 (by omega) (by omega)]
variable (tk) in
structure AlS (l : List UInt8) (xs : List α) (r : List UInt8) : Prop where
 out : rAll tk l.length l = (rAll tk r.length r).bind fun ys => some (xs ++ ys)
 le : xs.length + r.length <= l.length
theorem AlS.start (l : List UInt8) : AlS tk l [] l := ⟨by cases rAll tk l.length l <;> simp, by simp⟩
theorem AlS.fails {l : List UInt8} {xs : List α} {r : List UInt8} (h : AlS tk l xs r) (hr : r ≠ []) (h0 : tk r = none) : rAll tk l.length l = none := by
 obtain ⟨x, r, rfl⟩ := List.exists_cons_of_ne_nil hr
 rw [h.out, List.length_cons, rAll_cons hr, h0]
 rfl
theorem AlS.step (hs : ∀ l x r, tk l = some (x, r) -> r.length < l.length) {l : List UInt8} {xs : List α} {r : List UInt8} (h : AlS tk l xs r) (hr : r ≠ []) {y : α × List UInt8} (h0 : tk r = some y) : AlS tk l (xs ++ [y.1]) y.2 := by
 obtain ⟨x, r, rfl⟩ := List.exists_cons_of_ne_nil hr
 have h1 := hs _ y.1 y.2 h0
 simp only [List.length_cons] at h1
 refine ⟨?_, ?_⟩
 ·rw [h.out, List.length_cons, rAll_cons hr, h0, Option.bind_some, rAll_fuel hs r.length r.length y.2 (by omega) (by omega)]
  cases rAll tk y.2.length y.2 <;> simp
 ·have := h.le
  simp only [List.length_cons, List.length_append, List.length_nil] at this ⊢
  omega
theorem AlS.ends {l : List UInt8} {xs : List α} (h : AlS tk l xs []) : rAll tk l.length l = some xs := by
 rw [h.out, rAll_nil]
 simp
end
theorem rTxt_less {l : List UInt8} {x r : List UInt8} (h : rTxt l = some (x, r)) : r.length < l.length := by
 have h1 := (rTxt_some h).1
 rw [h1, List.length_append, show (txtB x).length = 2 + x.length by unfold txtB; rw [List.length_append, numB_len]]
 omega
theorem rNum_less {k : Nat} (hk : 1 <= k) {l : List UInt8} {n : Nat} {r : List UInt8} (h : rNum k l = some (n, r)) : r.length < l.length := by
 have h1 := (rNum_some h).1
 rw [h1, List.length_append, numB_len]
 omega
theorem rCode_less {l : List UInt8} {n : Int} {r : List UInt8} (h : rCode l = some (n, r)) : r.length < l.length := by
 unfold rCode at h
 cases h1 : rNum 1 l with
 | none => rw [h1] at h; cases h
 | some x => rw [h1] at h; cases h; exact rNum_less (by decide) (n := x.1) h1
theorem rWant_less {l : List UInt8} {n : WantV} {r : List UInt8} (h : rWant l = some (n, r)) : r.length < l.length := by
 unfold rWant at h
 cases h1 : rTxt l with
 | none => rw [h1] at h; cases h
 | some x =>
  rw [h1, Option.bind_some] at h
  cases h2 : rNum 1 x.2 with
  | none => rw [h2] at h; cases h
  | some y =>
   rw [h2, Option.bind_some] at h
   cases h
   have a := rTxt_less (x := x.1) (r := x.2) h1
   have b := rNum_less (by decide) (n := y.1) (r := y.2) h2
   omega
end
section
attribute [local go_sem] Oper.semAt_some
def stopP : Value := .iface 157 (.agg #[])
def givenP : List PanicEntry := [{ v := stopP, recovered := false }]
theorem pk_must (b : Bool) (w : World) : Calls Tryz.prog 95 #[.bool b] w fun e w' => e = (if b then .returned (.tuple #[]) else .panicked givenP) /\ w = w' := by
 cases b with
 | true =>
  go_enter Tryz.func95, Tryz.ntmps95
  go_wp2
  go_end0
  exact ⟨rfl, rfl⟩
 | false =>
  go_enter Tryz.func95, Tryz.ntmps95
  go_wp2
  exact ⟨rfl, rfl, rfl⟩
theorem pk_number {w : World} {B p : Nat} {l : List UInt8} (h : Rd w B p l) (k : Nat) (hk1 : 1 <= k) (hk : k <= 2) :
  Calls Tryz.prog 129 #[.agg #[.pointer (some ⟨p, 0, none⟩)], .int .i64 k] w fun e w' =>
   (rNum k l = none /\ e = .panicked givenP /\ Wrote [p] w w') \/ ∃ x, rNum k l = some x /\ e = .returned (.int .i64 x.1) /\ Rd w' B p x.2 /\ Wrote [p] w w' := by
 have hb0 : Below w.heap.size w (w.alloc (.cells #[.pointer (some ⟨p, 0, none⟩)] 161)) := (Below.refl _ _).alloc (Nat.le_refl _) _
 have CR := hid (wire_rNumber (h.below hb0) k hk1 hk)
 have CM := hid pk_must;have W0 : Wrote [p] w (w.alloc (.cells #[.pointer (some ⟨p, 0, none⟩)] 161)) := Wrote.alloc _ _ _
 have W0 := hid W0;rcases rNum_cases k l with ⟨hlt, hn⟩ | ⟨hle, hn⟩
 ·have HN := hid hn
  go_enter Tryz.func129, Tryz.ntmps129
  go_wp2_with fail
  refine CR.out.mono ?_
  rintro e w1 (⟨_, rfl, hb1⟩ | ⟨hle, rfl, hR1, hw1⟩)
  ·have HB := hid hb1
   clear hb1 hlt;go_wp2_with (go_at_call 95; refine (CM.out _ _).mono ?_; rintro e w2 ⟨rfl, rfl⟩)
   exact ⟨rfl, .inl ⟨HN.out, rfl, W0.out.trans (Wrote.of_below HB.out)⟩⟩
  ·omega
 ·have HN := hid hn
  have hbl : beN (l.take k) < 65536 := by
   have h1 := beN_lt (l.take k)
   have h2 : (l.take k).length <= 2 := by simp; omega
   have h3 : 256 ^ (l.take k).length <= 256 ^ 2 := Nat.pow_le_pow_right (by decide) h2
   omega
  obtain ⟨m, hm⟩ : ∃ m, beN (l.take k) = m := ⟨_, rfl⟩
  rw [hm] at CR hbl HN
  obtain ⟨z, hz⟩ : ∃ z : Int, z = (m : Int) := ⟨_, rfl⟩
  rw [<- hz] at CR
  have hz1 : 0 <= z := by omega
  have hz2 : z < 65536 := by omega
  have HZ := hid hz;clear hm hz hn hbl;go_enter Tryz.func129, Tryz.ntmps129
  go_wp2_with fail
  refine CR.out.mono ?_
  rintro e w1 (⟨hlt, rfl, hb1⟩ | ⟨_, rfl, hR1, hw1⟩)
  ·omega
  ·have HR := hid hR1
   have HW := hid hw1;clear hR1 hw1 hle;go_wp2_with (go_at_call 95; refine (CM.out _ _).mono ?_; rintro e w2 ⟨rfl, rfl⟩)
   go_ret
   exact .inr ⟨_, HN.out, by rw [HZ.out]; rfl, HR.out, W0.out.trans HW.out⟩
theorem pk_text {w : World} {B p : Nat} {l : List UInt8} (h : Rd w B p l) :
  Calls Tryz.prog 141 #[.agg #[.pointer (some ⟨p, 0, none⟩)]] w fun e w' =>
   (rTxt l = none /\ e = .panicked givenP /\ Wrote [p] w w') \/ ∃ x, rTxt l = some x /\ e = .returned (.string ⟨x.1.toArray⟩) /\ Rd w' B p x.2 /\ Wrote [p] w w' := by
 have hb0 : Below w.heap.size w (w.alloc (.cells #[.pointer (some ⟨p, 0, none⟩)] 161)) := (Below.refl _ _).alloc (Nat.le_refl _) _
 have CR := hid (wire_rText (h.below hb0))
 have CM := hid pk_must;have W0 : Wrote [p] w (w.alloc (.cells #[.pointer (some ⟨p, 0, none⟩)] 161)) := Wrote.alloc _ _ _
 have W0 := hid W0;go_enter Tryz.func141, Tryz.ntmps141
 go_wp2_with fail
 refine CR.out.mono ?_
 rintro e w1 (⟨hn, rfl, hR1, hw1⟩ | ⟨⟨s, r⟩, hn, rfl, hR1, hw1⟩)
 ·have HN := hid hn
  have HW := hid hw1;clear hw1 hn;go_wp2_with (go_at_call 95; refine (CM.out _ _).mono ?_; rintro e w2 ⟨rfl, rfl⟩)
  exact ⟨rfl, .inl ⟨HN.out, rfl, W0.out.trans HW.out⟩⟩
 ·have HN := hid hn
  have HW := hid hw1;have HR := hid hR1;clear hw1 hn hR1;dsimp only at HR
  go_wp2_with (go_at_call 95; refine (CM.out _ _).mono ?_; rintro e w2 ⟨rfl, rfl⟩)
  go_ret
  exact .inr ⟨_, HN.out, rfl, HR.out, W0.out.trans HW.out⟩
theorem Tryz.eB8 : ElemT Tryz.prog 22 5 (.int .u8 0) 1 1 := ⟨Tryz.underlying22, by kernel_rfl, rfl⟩
structure ReI (B p : Nat) (l : List UInt8) (w : World) (j : Nat) (v : Value) (W : World) : Prop where
 rd : Rd W B p (l.drop j)
 own : W.ownsRow (w.heap.size + 1) 5 1 v j (bs (l.take j))
 wrote : Wrote [p] w W
 box : Blk W w.heap.size #[.pointer (some ⟨p, 0, none⟩)] 161
 le : j <= l.length
theorem pk_rest {w : World} {B p : Nat} {l : List UInt8} (h : Rd w B p l) : Calls Tryz.prog 210 #[.agg #[.pointer (some ⟨p, 0, none⟩)]] w fun e w' => e = .returned (.string ⟨l.toArray⟩) /\ Rd w' B p [] /\ Wrote [p] w w' := by
 obtain ⟨W0, hW0⟩ : ∃ W0, w.alloc (.cells #[.pointer (some ⟨p, 0, none⟩)] 161) = W0 := ⟨_, rfl⟩
 have hs0 : W0.heap.size = w.heap.size + 1 := by rw [<- hW0]; simp
 have hpb := h.lt
 have hbw := h.base
 have hll := h.len
 have HI0 : Hid (ReI B p l w 0 (.slice none 0 0) W0) := hid (by
  refine ⟨?_, World.ownsRow_nil _ _ _ _, ?_, ?_, Nat.zero_le _⟩
  ·rw [<- hW0]; exact h.below ((Below.refl _ _).alloc (Nat.le_refl _) _)
  ·rw [<- hW0]; exact Wrote.alloc _ _ _
  ·rw [<- hW0]; exact Blk.new _ _ _)
 have CL := hid (fun (W : World) (l' : List UInt8) (h : Rd W B p l') => wire_Left h)
 have CN := hid (fun (W : World) (l' : List UInt8) (h : Rd W B p l') => pk_number h 1 (by decide) (by decide))
 clear h;go_enter Tryz.func210, Tryz.ntmps210
 go_wp2_with fail
 go_loopw [3] (fun v wr => ∃ (j : Nat) (av : Option Addr) (cv : Nat), v = .slice av j cv /\ Hid (ReI B p l w j (.slice av j cv) wr)) (fun _ wr => rdLen (wr.cell? ⟨p, 0, none⟩))
 case atStart => exact ⟨0, none, 0, rfl, HI0⟩
 case round =>
  obtain ⟨j, av, cv, rfl, hI⟩ := hrel
  have kq : wr.cell? ⟨w.heap.size, 0, none⟩ = some (.pointer (some ⟨p, 0, none⟩)) := hI.out.box.cell 0
  have CLJ := hid (CL.out wr _ hI.out.rd)
  have hdl : (l.drop j).length = l.length - j := List.length_drop
  have hjl := hI.out.le
  obtain ⟨m, hm⟩ : ∃ m, (l.drop j).length = m := ⟨_, rfl⟩
  rw [hm] at CLJ hdl
  rcases Nat.eq_zero_or_pos m with hz | hpos
  ·subst hz
   have hje : Hid (j = l.length) := hid (by omega)
   have hrow := RowAt.of_own hI.out.own
   obtain ⟨a2, c2, e2, hrow⟩ := hrow
   cases e2
   have hstr := run_str hrow
   rw [show l.take j = l by rw [hje.out, List.take_length]] at hstr
   have H := hid (show Rd wr B p [] /\ Wrote [p] w wr from ⟨by have := hI.out.rd; rwa [List.drop_eq_nil_of_le (by rw [hje.out]; exact Nat.le_refl _)] at this, hI.out.wrote⟩)
   clear hrow hdl hm;go_wp2_with fail
   refine CLJ.out.mono ?_
   rintro e w1 ⟨rfl, rfl⟩
   go_wp2_with fail
   go_ret
   exact ⟨rfl, H.out⟩
  ·have hjl : j < l.length := by omega
   obtain ⟨x, hx⟩ : ∃ x, l[j]? = some x := ⟨_, List.getElem?_eq_getElem hjl⟩
   have hdr : l.drop j = x :: l.drop (j + 1) := by
    rw [List.drop_eq_getElem_cons hjl]
    rw [List.getElem?_eq_getElem hjl] at hx
    cases hx
    rfl
   have htk : Hid (bs (l.take (j + 1)) = bs (l.take j) ++ [.int .u8 ((x.toNat : Nat) : Int)]) := hid (by
    rw [List.take_add_one, hx]
    simp [bs])
   have hnum : rNum 1 (l.drop j) = some (x.toNat, l.drop (j + 1)) := by
    unfold rNum
    rw [hdr]
    simp [beN]
   have CNJ := hid (CN.out wr _ hI.out.rd)
   rw [hnum] at CNJ
   obtain ⟨z, hz⟩ : ∃ z : Int, ((x.toNat : Nat) : Int) = z := ⟨_, rfl⟩
   have hz0 : 0 <= z := by omega
   have hz1 : z < 256 := by have := x.toNat_lt; omega
   rw [hz] at htk
   have hjm : j + 1 <= 70368744177664 := by omega
   have hs1 := hI.out.wrote.size
   have hlt := hI.out.box.lt
   replace hz := hid hz;have HJ := hid hjl;clear hdl hm hx hdr hnum hjl;go_wp2_with fail
   refine CLJ.out.mono ?_
   rintro e w1 ⟨rfl, rfl⟩
   go_wp2_with fail
   refine CNJ.out.mono ?_
   rintro e w2 (⟨hno, rfl, hw2⟩ | ⟨y, hy, rfl, hR2, hw2⟩)
   ·cases hno
   ·cases hy
    dsimp only at hR2 ⊢
    rw [hz.out]
    have HR2 := hid hR2;have HO := hid hI.out.own;have ho2 : w2.ownsRow (w.heap.size + 1) 5 1 (.slice av j cv) j (bs (l.take j)) := hw2.row (by simp; omega) HO.out
    have HW := hid (hI.out.wrote.trans hw2)
    have HB2 := hid (hI.out.box.keepW hw2 (by simp; omega))
    have hs2 := hw2.size
    clear hw2 hR2;go_wp2_with (at_builtin; refine append_one rfl _ _ rfl Tryz.eB8 (w.heap.size + 1) _ _ _ rfl ho2 (.int .u8 z) rfl rfl (by omega) (by omega) (by omega) ?_; intro v' w4 how4 hg4)
    obtain ⟨a4, c4, rfl⟩ := own_slice how4
    have hv : ∀ y ∈ blk (.slice av j cv), w.heap.size + 1 <= y := fun y hy => (HO.out.lt y (mem_blk.1 hy)).1
    have hw4 : Wrote (blk (.slice av j cv)) w2 w4 := Wrote.of_grown hg4 (fun q hq => mem_blk.2 hq)
    have hR4 := HR2.out.wrote hw4 (fun y hy => by have := hv y hy; omega)
    refine ⟨⟨j + 1, a4, c4, rfl, hid ⟨hR4, by rw [htk.out]; exact how4, HW.out.andNew hw4 (fun y hy => by have := hv y hy; omega), HB2.out.keepW hw4 (fun h => by have := hv _ h; omega), HJ.out⟩⟩, ?_⟩
    rw [hR4.rdLen, hI.out.rd.rdLen, List.length_drop, List.length_drop]
    have := HJ.out
    omega
end
end Go.Proofs.YtkghejaimhoboaaGreatDoor
