/- Contracts of package session (part 4): Due, Late, Client, sub, in, Off, On. · One cell of a block is stored; what stands behind is known of the block alone. No program in sight. · Contracts of package session (part 5): Off, On. -/
import Derived.Test.YtoinabapaeebfaaGreatDoorPk26
import Derived.Test.YtoinabapaeebfaaGreatDoorPk09
import Derived.Test.YtoinabapaeebfaaGreatDoorPk27
import Derived.Test.YtoinabapaeebfaaGreatDoorPk28
import Derived.Laws.Externs
set_option linter.unusedSimpArgs false
set_option linter.unusedVariables false
namespace Go.Proofs.YtoinabapaeebfaaGreatDoor
open Go.RowKit Go.Shelf

theorem frombits (n : Int) (w : World) : (callFunc 117 #[.int .u64 n]).run Tryz.prog w = .ok (.value (.float .f64 n.toNat)) w := by
  rw [run_callFunc_extern Tryz.func117 (by kernel_rfl) (by kernel_rfl) (by kernel_rfl) (show Extern.find Tryz.f117 = some Extern.MathFloatBits.float64frombits by kernel_rfl)]
  rfl
set_option maxRecDepth 100000 in
set_option maxHeartbeats 400000 in
theorem math_Inf (w : World) : Calls Tryz.prog 61 #[.int .i64 1] w fun e w' => e = .returned (.float .f64 infB) ∧ w = w' := by
  have hf := frombits 9218868437227405312
  go_enter Tryz.func61, Tryz.ntmps61
  go_wp2
  go_ret
  exact ⟨rfl, rfl⟩

/-- The tick, in quarters, at which a session is due. -/
def XS.due (x : XS) : Nat := 4 * x.heard.toNat + 6 * x.keep.toNat
def XS.runs (x : XS) : Bool := x.on && !decide (x.keep = 0)
/-- The word for when it is due. -/
def DueB (x : XS) (b : Nat) : Prop := if x.runs then Val b x.due else b = infB

set_option maxRecDepth 100000 in
set_option maxHeartbeats 800000 in
theorem ses_Due {w : World} {B : Nat} {S : XLay} {x : XS} (h : XB w B S x) (h0 : 0 ≤ x.heard) (h1 : x.heard ≤ 1125899906842624) :
    Calls Tryz.prog 21 #[.pointer (some ⟨S.p, 0, none⟩)] w fun e w' => ∃ b, e = .returned (.float .f64 b) ∧ DueB x b ∧ Below w.heap.size w w' := by
  obtain ⟨most, subs, o, ids, wants, clean, on, keep, heard, will⟩ := x
  dsimp only at h0 h1
  have k8 : w.cell? ⟨S.p, 8, none⟩ = some (.bool on) := h.box.cell 8
  have k9 : w.cell? ⟨S.p, 9, none⟩ = some (.int .i64 keep) := h.box.cell 9
  have k10 : w.cell? ⟨S.p, 10, none⟩ = some (.int .i64 heard) := h.box.cell 10
  have hk := h.ok.keep
  dsimp only at hk
  have CN := hid (ses_none h)
  have CI := hid math_Inf
  unfold DueB XS.runs XS.due
  dsimp only
  cases on with
  | false =>
    go_enter Tryz.func21, Tryz.ntmps21
    go_wp2_with (first
      | (go_at_call 60; refine CN.out.mono ?_; rintro e w1 ⟨rfl, rfl⟩)
      | (go_at_call 61; refine (CI.out _).mono ?_; rintro e w1 ⟨rfl, rfl⟩))
    go_ret
    exact ⟨_, rfl, by simp, Below.refl _ _⟩
  | true =>
    by_cases hz : keep = 0
    · subst hz
      go_enter Tryz.func21, Tryz.ntmps21
      go_wp2_with (first
        | (go_at_call 60; refine CN.out.mono ?_; rintro e w1 ⟨rfl, rfl⟩)
        | (go_at_call 61; refine (CI.out _).mono ?_; rintro e w1 ⟨rfl, rfl⟩))
      go_ret
      exact ⟨_, rfl, by simp, Below.refl _ _⟩
    · have dz : (keep == 0) = false := by simp [hz]
      obtain ⟨m, hm, vm⟩ := val_mul (v := 6 * keep.toNat) val_half3 (val_int keep hk.1 (by omega)) (by omega) (by omega)
      obtain ⟨s, hs, vs⟩ := val_add (val_int heard h0 (by omega)) vm (by omega)
      have rm := fun W => run_float_arith (P := Tryz.prog) W .mul 61 .f64 _ _ _ hm
      have rs := fun W => run_float_arith (P := Tryz.prog) W .add 61 .f64 _ _ _ hs
      clear hm vm hs
      go_enter Tryz.func21, Tryz.ntmps21
      go_wp2_with (go_at_call 60; refine CN.out.mono ?_; rintro e w1 ⟨rfl, rfl⟩)
      go_quiet (fail)
      go_wp2
      all_goals go_ret
      all_goals refine ⟨_, rfl, ?_, ?_⟩
      all_goals first | exact below_drewN' _ _ | exact vs | (simp [hz]; exact vs)

set_option maxRecDepth 100000 in
set_option maxHeartbeats 800000 in
theorem ses_Late {w : World} {B : Nat} {S : XLay} {x : XS} (h : XB w B S x) (h0 : 0 ≤ x.heard) (h1 : x.heard ≤ 1125899906842624) (now : Int) (h2 : 0 ≤ now) (h3 : now ≤ 1125899906842624) :
    Calls Tryz.prog 23 #[.pointer (some ⟨S.p, 0, none⟩), .int .i64 now] w fun e w' => e = .returned (.bool (x.runs && decide (x.due < 4 * now.toNat))) ∧ Below w.heap.size w w' := by
  have CD := hid (ses_Due h h0 h1)
  go_enter Tryz.func23, Tryz.ntmps23
  go_wp2_with (go_at_call 21; refine CD.out.mono ?_; rintro e w1 ⟨b, rfl, hd, hb⟩)
  go_ret
  refine ⟨?_, hb⟩
  have hv := val_int now h2 (by omega)
  unfold DueB at hd
  show Ending.returned (.bool (Ieee.double.order _ _ == some .gt)) = _
  cases hr : x.runs with
  | false =>
    rw [hr] at hd
    simp at hd
    subst hd
    rw [order_inf hv]
    rfl
  | true =>
    rw [hr] at hd
    simp at hd
    rw [val_order hv hd]
    congr 2
    rw [Bool.eq_iff_iff]
    simp [Nat.compare_eq_gt]

set_option maxRecDepth 100000 in
set_option maxHeartbeats 400000 in
theorem ses_Client {w : World} {B : Nat} {S : XLay} {x : XS} (h : XB w B S x) :
    Calls Tryz.prog 62 #[.pointer (some ⟨S.p, 0, none⟩)] w fun e w' => e = .returned (.string ⟨x.o.client.toArray⟩) ∧ Below w.heap.size w w' := by
  have k0 : w.cell? ⟨S.p, 0, none⟩ = some (.pointer (some ⟨S.o.p, 0, none⟩)) := h.box.cell 0
  have CN := hid (ses_none h)
  have CS := out_Session h.ob
  have hfl : ∀ W, (Instr.field 33 (.agg x.o.session.vals) 1).run Tryz.prog W = .ok (.string ⟨x.o.client.toArray⟩) W := fun W => by kernel_rfl
  unfold RowV.vals OS.session at hfl
  unfold RowV.vals OS.session at CS
  replace CS := hid CS
  go_enter Tryz.func62, Tryz.ntmps62
  go_wp2_with (first
    | (go_at_call 60; refine CN.out.mono ?_; rintro e w1 ⟨rfl, rfl⟩)
    | (go_at_call 14; refine CS.out.mono ?_; rintro e w1 ⟨rfl, hb⟩))
  go_ret
  exact ⟨rfl, hb⟩

def XS.sub (x : XS) (filter : List UInt8) (qos : Int) : RowV := ⟨2, x.o.client, 0, 0, filter, [], qos, false, 0⟩
def XS.inr (x : XS) (id : Int) : RowV := ⟨4, x.o.client, 0, id, [], [], 0, false, 0⟩
set_option maxRecDepth 100000 in
set_option maxHeartbeats 400000 in
theorem ses_sub {w : World} {B : Nat} {S : XLay} {x : XS} (h : XB w B S x) (filter : List UInt8) (qos : Int) :
    Calls Tryz.prog 65 #[.pointer (some ⟨S.p, 0, none⟩), .string ⟨filter.toArray⟩, .int .i64 qos] w fun e w' => e = .returned (.agg (x.sub filter qos).vals) ∧ Below w.heap.size w w' := by
  have CC := hid fun o => ses_Client (h.alloc o)
  unfold RowV.vals XS.sub
  go_enter Tryz.func65, Tryz.ntmps65
  go_wp2_with (first
    | (go_at_call 62; refine (CC.out _).mono ?_; rintro e w1 ⟨rfl, hb⟩; have D0 := hid ((Blk.new w #[.int .i64 0, .string ⟨#[]⟩, .int .i64 0, .int .i64 0, .string ⟨#[]⟩, .string ⟨#[]⟩, .int .i64 0, .bool false, .int .i64 0] 33).below hb))
    | (refine wpList_store_blk rfl 33 33 _ _ rfl 9 (fun w => by kernel_rfl) w.heap.size _ #[.int .i64 2,.string ⟨x.o.client.toArray⟩,.int .i64 0,.int .i64 0,.string ⟨filter.toArray⟩,.string ⟨#[]⟩,.int .i64 qos,.bool false,.int .i64 0] rfl rfl D0.out rfl rfl (by simp [Value.oneCell']) ?_; intro w2 hb2 hw2))
  refine bodyPost_ret (results_cell1 Tryz.results65 rfl (run_loadVar_blk hb2 33 Tryz.underlying33 rfl (by kernel_rfl))) rfl ?_
  exact ⟨rfl, (((Below.refl _ w).alloc (Nat.le_refl _) _).trans (hb.mono (by simp))).trans (hw2.below (by have := hb.size; simp at this; omega) (by simp))⟩
set_option maxRecDepth 100000 in
set_option maxHeartbeats 400000 in
theorem ses_in {w : World} {B : Nat} {S : XLay} {x : XS} (h : XB w B S x) (id : Int) :
    Calls Tryz.prog 72 #[.pointer (some ⟨S.p, 0, none⟩), .int .i64 id] w fun e w' => e = .returned (.agg (x.inr id).vals) ∧ Below w.heap.size w w' := by
  have CC := hid fun o => ses_Client (h.alloc o)
  unfold RowV.vals XS.inr
  go_enter Tryz.func72, Tryz.ntmps72
  go_wp2_with (first
    | (go_at_call 62; refine (CC.out _).mono ?_; rintro e w1 ⟨rfl, hb⟩; have D0 := hid ((Blk.new w #[.int .i64 0, .string ⟨#[]⟩, .int .i64 0, .int .i64 0, .string ⟨#[]⟩, .string ⟨#[]⟩, .int .i64 0, .bool false, .int .i64 0] 33).below hb))
    | (refine wpList_store_blk rfl 33 33 _ _ rfl 9 (fun w => by kernel_rfl) w.heap.size _ #[.int .i64 4,.string ⟨x.o.client.toArray⟩,.int .i64 0,.int .i64 id,.string ⟨#[]⟩,.string ⟨#[]⟩,.int .i64 0,.bool false,.int .i64 0] rfl rfl D0.out rfl rfl (by simp [Value.oneCell']) ?_; intro w2 hb2 hw2))
  refine bodyPost_ret (results_cell1 Tryz.results72 rfl (run_loadVar_blk hb2 33 Tryz.underlying33 rfl (by kernel_rfl))) rfl ?_
  exact ⟨rfl, (((Below.refl _ w).alloc (Nat.le_refl _) _).trans (hb.mono (by simp))).trans (hw2.below (by have := hb.size; simp at this; omega) (by simp))⟩
end Go.Proofs.YtoinabapaeebfaaGreatDoor
namespace Go.Proofs.YtoinabapaeebfaaGreatDoor
open Go.RowKit Go.Shelf

section
variable {P : Program} {w : World}
theorem take_set_drop (cur : Array Value) (j : Nat) (v : Value) (hj : j < cur.size) : (cur.toList.take j ++ [v] ++ cur.toList.drop (j + 1)).toArray = cur.setIfInBounds j v := by
  obtain ⟨l⟩ := cur
  simp only [List.size_toArray] at hj
  simp only [List.setIfInBounds_toArray]
  congr 1
  rw [List.set_eq_take_append_cons_drop, if_pos hj]
  simp
theorem run_store_cell (t T : TypeId) (hs : ∀ w, (sizeOf t).run P w = .ok 1 w) {b j : Nat} {cur : Array Value} {v : Value} (hb : Blk w b cur T) (hj : j < cur.size) (hv : v.cells = #[v]) (h1 : v.oneCell' = true) :
    (Instr.storeAt t (.pointer (some ⟨b, j, none⟩)) v).run P w = .ok () (w.setRow b (cur.setIfInBounds j v)) := by
  have hr := run_storeCells_at P b j T [v] 0 cur w hb (by simp; omega) (by simpa using h1)
  simp only [Nat.add_zero, List.length_singleton] at hr
  rw [take_set_drop cur j v hj] at hr
  simp [Instr.storeAt, Instr.sureAddr, storeVar, hs, hv, hr]
theorem wp_store_cell {o : Oper} {a : Act} {K : Act → World → Prop} {Q : Exit → Act → World → Prop} (t T : TypeId) (x y : Operand) (ho : o.op = .store t x y) (hs : ∀ w, (sizeOf t).run P w = .ok 1 w) (b j : Nat) (cur : Array Value) (v : Value)
    (hx : a.eval x = .pointer (some ⟨b, j, none⟩)) (hy : a.eval y = v) (hb : Blk w b cur T) (hj : j < cur.size) (hv : v.cells = #[v]) (h1 : v.oneCell' = true)
    (h : ∀ w', Blk w' b (cur.setIfInBounds j v) T → Wrote [b] w w' → K (a.put o.dst undef) w') : o.wp P a w K Q := by
  have hr := run_store_cell (P := P) t T hs hb hj hv h1
  unfold Oper.wp execOp
  simp only [ho, hx, hy, Sem.run_bind, hr, Result.andThen_ok, Sem.run_pure]
  simp only [Oper.upon]
  exact h _ (setRow_heap w b cur _ T (0, 0) hb) (setRow_wrote b _)
theorem wpList_store_cell {ops : Array Oper} {rest : List Oper} {op : Oper} {a : Act} {Q : Exit → Act → World → Prop} (hgd : op.guard = none) (t T : TypeId) (x y : Operand) (ho : op.op = .store t x y) (hs : ∀ w, (sizeOf t).run P w = .ok 1 w) (b j : Nat) (cur : Array Value) (v : Value)
    (hx : a.eval x = .pointer (some ⟨b, j, none⟩)) (hy : a.eval y = v) (hb : Blk w b cur T) (hj : j < cur.size) (hv : v.cells = #[v]) (h1 : v.oneCell' = true)
    (h : ∀ w', Blk w' b (cur.setIfInBounds j v) T → Wrote [b] w w' → wpList P ops Q rest (a.put op.dst undef) w') : wpList P ops Q (op :: rest) a w :=
  wpList_plain hgd fun _ hK => wp_store_cell t T x y ho hs b j cur v hx hy hb hj hv h1 fun w' hb' hw' => hK _ _ (h w' hb' hw')
end
theorem Wrote.andNew {M N : List Nat} {a b c : World} (h : Wrote M a b) (k : Wrote N b c) (hN : ∀ x ∈ N, a.heap.size ≤ x) : Wrote M a c :=
  ⟨k.os.trans h.os, k.tape.trans h.tape, k.output.trans h.output, Nat.le_trans h.size k.size, fun i hi hm => (k.block i (Nat.lt_of_lt_of_le hi h.size) (fun hx => by have := hN i hx; omega)).trans (h.block i hi hm)⟩
theorem results_ct1 {P : Program} {w : World} {fn : Func} {a b : Tmp} {t : TypeId} (h : fn.results = #[.cell a t, .tmp b]) {tmps : Array Value} {p : Addr} (hp : tmps.getD a undef = .pointer (some p)) {v x : Value} (hl : (loadVar t p).run P w = .ok v w) (hx : tmps.getD b undef = x) : (results fn tmps).run P w = .ok (.tuple #[v, x]) w := by
  rw [Array.getD_eq_getD_getElem?] at hp hx
  simp [results, h, hp, hx, asAddr, hl]
end Go.Proofs.YtoinabapaeebfaaGreatDoor
namespace Go.Proofs.YtoinabapaeebfaaGreatDoor
open Go.RowKit Go.Shelf

theorem wv_not_p {w : World} {B : Nat} {S : XLay} {x : XS} (h : XB w B S x) : ∀ b ∈ S.wv.toList, b ∉ [S.p] := by
  intro b hb
  have := h.nodup
  simp only [XLay.own, List.nodup_cons, List.mem_cons, not_or] at this
  simp only [List.mem_singleton]
  rintro rfl
  exact this.1.2.2.2 hb
theorem foot_less {S : XLay} : ∀ y ∈ XLay.foot { S with wv := none }, y ∈ S.foot := by
  intro y hy
  simp only [XLay.foot, XLay.own, List.cons_append, List.mem_cons, List.mem_append, Option.toList_none, List.nil_append] at hy ⊢
  rcases hy with h | h | h | h | h <;> simp [h]

set_option maxRecDepth 100000 in
set_option maxHeartbeats 400000 in
theorem ses_Off {w : World} {B : Nat} {S : XLay} {x : XS} (h : XB w B S x) :
    Calls Tryz.prog 26 #[.pointer (some ⟨S.p, 0, none⟩)] w fun e w' => e = .returned (.tuple #[.agg (x.will.getD noWill).vals, .bool x.will.isSome]) ∧
      XB w' B { S with wv := none } { x with on := false, will := none } ∧ Stp S.foot (XLay.foot { S with wv := none }) w w' := by
  have CN := hid fun o => ses_none (h.alloc o)
  have hlt := h.box.lt
  have k11 : ∀ o, (w.alloc o).cell? ⟨S.p, 11, none⟩ = some (ptrO S.wv) := fun o => (h.box.alloc o).cell 11
  have hnp : w.heap.size ∉ [S.p] := by simp only [List.mem_singleton]; omega
  have hwl := h.will
  have hbp0 := wv_not_p h
  rcases hv : S.wv with _ | b <;> rcases hu : x.will with _ | v <;> rw [hv, hu] at hwl <;> simp only [WillAt] at hwl
  · rw [hv] at k11
    simp only [ptrO, Option.map_none] at k11
    have H := hid h
    clear h
    go_enter Tryz.func26, Tryz.ntmps26
    go_wp2_with (first
      | (go_at_call 60; refine (CN.out _).mono ?_; rintro e w1 ⟨rfl, rfl⟩)
      | (refine wpList_store_cell rfl 4 132 _ _ rfl (fun w => by kernel_rfl) S.p 8 _ _ rfl rfl (H.out.box.alloc _) (by simp [XLay.cells]) rfl rfl ?_; intro w2 hb2 hw2)
      | (refine wpList_store_cell rfl 72 132 _ _ rfl (fun w => by kernel_rfl) S.p 11 _ _ rfl rfl hb2 (by simp [XLay.cells]) rfl rfl ?_; intro w3 hb3 hw3)
      | (refine wpList_load_blk rfl 67 _ rfl b v.vals rfl (((Blk.alloc hwl _).wrote hw2 hbp).wrote hw3 hbp) Tryz.underlying67 rfl (by kernel_rfl) ?_)
      | (refine wpList_store_blk rfl 67 67 _ _ rfl 4 (fun w => by kernel_rfl) w.heap.size _ noWill.vals rfl rfl (((Blk.new w _ _).wrote hw2 hnp).wrote hw3 hnp) rfl rfl (by simp [Value.oneCell', WillV.vals, noWill]) ?_; intro w4 hb4 hw4))
    refine bodyPost_ret (results_ct1 Tryz.results26 rfl (run_loadVar_blk hb4 67 Tryz.underlying67 rfl (by kernel_rfl)) rfl) rfl ?_
    have hx1 := (H.out.alloc _).rebox none x.clean false x.keep x.heard none H.out.ok.keep (hw2.trans hw3) hb3 trivial (by simp)
    have hwn : ∀ z ∈ [w.heap.size], z ∉ XLay.foot { S with wv := none } := fun z hz hf => by
      have := H.out.lt z (foot_less z hf)
      simp only [List.mem_singleton] at hz
      omega
    refine ⟨rfl, hx1.out hw4 hwn (by have := H.out.ob.tz.lt; simp only [List.mem_singleton]; omega), ⟨?_, fun y hy => .inl (foot_less y hy)⟩⟩
    exact ((((Wrote.alloc [S.p] w _).trans hw2).trans hw3).andNew hw4 (by simp)).sub (by simp [XLay.foot, XLay.own])
  · rw [hv] at k11
    simp only [ptrO, Option.map_some] at k11
    have hbp : b ∉ [S.p] := hbp0 b (by simp [hv])
    have H := hid h
    clear h
    go_enter Tryz.func26, Tryz.ntmps26
    go_wp2_with (first
      | (go_at_call 60; refine (CN.out _).mono ?_; rintro e w1 ⟨rfl, rfl⟩)
      | (refine wpList_store_cell rfl 4 132 _ _ rfl (fun w => by kernel_rfl) S.p 8 _ _ rfl rfl (H.out.box.alloc _) (by simp [XLay.cells]) rfl rfl ?_; intro w2 hb2 hw2)
      | (refine wpList_store_cell rfl 72 132 _ _ rfl (fun w => by kernel_rfl) S.p 11 _ _ rfl rfl hb2 (by simp [XLay.cells]) rfl rfl ?_; intro w3 hb3 hw3)
      | (refine wpList_load_blk rfl 67 _ rfl b v.vals rfl (((Blk.alloc hwl _).wrote hw2 hbp).wrote hw3 hbp) Tryz.underlying67 rfl (by kernel_rfl) ?_)
      | (refine wpList_store_blk rfl 67 67 _ _ rfl 4 (fun w => by kernel_rfl) w.heap.size _ v.vals rfl rfl (((Blk.new w _ _).wrote hw2 hnp).wrote hw3 hnp) rfl rfl (by simp [Value.oneCell', WillV.vals, noWill]) ?_; intro w4 hb4 hw4))
    refine bodyPost_ret (results_ct1 Tryz.results26 rfl (run_loadVar_blk hb4 67 Tryz.underlying67 rfl (by kernel_rfl)) rfl) rfl ?_
    have hx1 := (H.out.alloc _).rebox none x.clean false x.keep x.heard none H.out.ok.keep (hw2.trans hw3) hb3 trivial (by simp)
    have hwn : ∀ z ∈ [w.heap.size], z ∉ XLay.foot { S with wv := none } := fun z hz hf => by
      have := H.out.lt z (foot_less z hf)
      simp only [List.mem_singleton] at hz
      omega
    refine ⟨rfl, hx1.out hw4 hwn (by have := H.out.ob.tz.lt; simp only [List.mem_singleton]; omega), ⟨?_, fun y hy => .inl (foot_less y hy)⟩⟩
    exact ((((Wrote.alloc [S.p] w _).trans hw2).trans hw3).andNew hw4 (by simp)).sub (by simp [XLay.foot, XLay.own])
end Go.Proofs.YtoinabapaeebfaaGreatDoor
