/- Contracts of package session (part 6): On. · Elements of a row of one's own, as cells in the middle of a block. -/
import Derived.Test.YtoinabapaeebfaaGreatDoorPk29
import Derived.Test.YtoinabapaeebfaaGreatDoorPk28
set_option linter.unusedSimpArgs false
set_option linter.unusedVariables false
namespace Go.Proofs.YtoinabapaeebfaaGreatDoor
open Go.RowKit Go.Shelf

def WillV.may (v : WillV) : Bool := nameR v.topic && decide ((v.body.length : Int) ≤ 2000) && (decide (0 ≤ v.qos) && decide (v.qos ≤ 2))

set_option maxRecDepth 100000 in
set_option maxHeartbeats 400000 in
theorem ses_On_refused {w : World} {B : Nat} {S : XLay} {x : XS} (h : XB w B S x) (clean : Bool) (keep now : Int) (a : Option Addr) (hn : ¬ (0 ≤ keep ∧ keep ≤ 65535 ∧ 0 ≤ now)) :
    Calls Tryz.prog 24 #[.pointer (some ⟨S.p, 0, none⟩), .bool clean, .int .i64 keep, .pointer a, .int .i64 now] w fun e w' => e = .returned (.int .i64 2) ∧ w = w' := by
  have CN := hid (ses_none h)
  rcases Int.lt_or_le keep 0 with h1 | h1
  · have d1 : decide (keep < 0) = true := decide_eq_true h1
    go_enter Tryz.func24, Tryz.ntmps24
    go_wp2_with (go_at_call 60; refine CN.out.mono ?_; rintro e w1 ⟨rfl, rfl⟩)
    go_ret
    exact ⟨rfl, rfl⟩
  have d1 : decide (keep < 0) = false := decide_eq_false (by omega)
  rcases Int.lt_or_le 65535 keep with h2 | h2
  · have d2 : decide (65535 < keep) = true := decide_eq_true h2
    go_enter Tryz.func24, Tryz.ntmps24
    go_wp2_with (go_at_call 60; refine CN.out.mono ?_; rintro e w1 ⟨rfl, rfl⟩)
    go_ret
    exact ⟨rfl, rfl⟩
  have d2 : decide (65535 < keep) = false := decide_eq_false (by omega)
  have d3 : decide (now < 0) = true := decide_eq_true (by omega)
  go_enter Tryz.func24, Tryz.ntmps24
  go_wp2_with (go_at_call 60; refine CN.out.mono ?_; rintro e w1 ⟨rfl, rfl⟩)
  go_ret
  exact ⟨rfl, rfl⟩

set_option maxRecDepth 100000 in
set_option maxHeartbeats 400000 in
theorem ses_On_nil {w : World} {B : Nat} {S : XLay} {x : XS} (h : XB w B S x) (clean : Bool) (keep now : Int) (hn : 0 ≤ keep ∧ keep ≤ 65535 ∧ 0 ≤ now) :
    Calls Tryz.prog 24 #[.pointer (some ⟨S.p, 0, none⟩), .bool clean, .int .i64 keep, .pointer none, .int .i64 now] w fun e w' => e = .returned (.int .i64 0) ∧
      XB w' B { S with wv := none } { x with clean := clean, on := true, keep := keep, heard := now, will := none } ∧ Stp S.foot (XLay.foot { S with wv := none }) w w' := by
  have CN := hid (ses_none h)
  have d1 : decide (keep < 0) = false := decide_eq_false (by omega)
  have d2 : decide (65535 < keep) = false := decide_eq_false (by omega)
  have d3 : decide (now < 0) = false := decide_eq_false (by omega)
  have H := hid h
  clear h
  go_enter Tryz.func24, Tryz.ntmps24
  go_wp2_with (first
    | (go_at_call 60; refine CN.out.mono ?_; rintro e w1 ⟨rfl, rfl⟩)
    | (refine wpList_store_cell rfl 4 132 _ _ rfl (fun w => by kernel_rfl) S.p 8 _ _ rfl rfl H.out.box (by simp [XLay.cells]) rfl rfl ?_; intro w2 hb2 hw2)
    | (refine wpList_store_cell rfl 4 132 _ _ rfl (fun w => by kernel_rfl) S.p 7 _ _ rfl rfl hb2 (by simp [XLay.cells]) rfl rfl ?_; intro w3 hb3 hw3)
    | (refine wpList_store_cell rfl 2 132 _ _ rfl (fun w => by kernel_rfl) S.p 9 _ _ rfl rfl hb3 (by simp [XLay.cells]) rfl rfl ?_; intro w4 hb4 hw4)
    | (refine wpList_store_cell rfl 2 132 _ _ rfl (fun w => by kernel_rfl) S.p 10 _ _ rfl rfl hb4 (by simp [XLay.cells]) rfl rfl ?_; intro w5 hb5 hw5)
    | (refine wpList_store_cell rfl 72 132 _ _ rfl (fun w => by kernel_rfl) S.p 11 _ _ rfl rfl hb5 (by simp [XLay.cells]) rfl rfl ?_; intro w6 hb6 hw6))
  go_ret
  have hw := (((hw2.trans hw3).trans hw4).trans hw5).trans hw6
  exact ⟨rfl, H.out.rebox none clean true keep now none ⟨hn.1, hn.2.1⟩ hw hb6 trivial (by simp), ⟨hw.sub (by simp [XLay.foot, XLay.own]), fun y hy => .inl (foot_less y hy)⟩⟩

set_option maxRecDepth 100000 in
set_option maxHeartbeats 800000 in
theorem ses_On_bad {w : World} {B : Nat} {S : XLay} {x : XS} (h : XB w B S x) (clean : Bool) (keep now : Int) (b : Nat) (v : WillV) (hv : Blk w b v.vals 67) (hn : 0 ≤ keep ∧ keep ≤ 65535 ∧ 0 ≤ now) (ht : v.topic.length ≤ 1000000) (hm : v.may = false) :
    Calls Tryz.prog 24 #[.pointer (some ⟨S.p, 0, none⟩), .bool clean, .int .i64 keep, .pointer (some ⟨b, 0, none⟩), .int .i64 now] w fun e w' => e = .returned (.int .i64 2) ∧ Below w.heap.size w w' := by
  obtain ⟨topic, body, qos, retain⟩ := v
  dsimp only at ht
  have CN := hid (ses_none h)
  have d1 : decide (keep < 0) = false := decide_eq_false (by omega)
  have d2 : decide (65535 < keep) = false := decide_eq_false (by omega)
  have d3 : decide (now < 0) = false := decide_eq_false (by omega)
  have CT := hid (topic_Name topic w (by omega) (anyOK topic (by omega)))
  have c0 : w.cell? ⟨b, 0, none⟩ = some (.string ⟨topic.toArray⟩) := hv.cell 0
  have HV := hid hv
  have hsz : ByteArray.size ⟨body.toArray⟩ = body.length := by simp [ByteArray.size]
  unfold WillV.may at hm
  dsimp only at hm
  clear ht h hv
  cases hnm : nameR topic
  · rw [hnm] at CT
    clear hm hnm
    go_enter Tryz.func24, Tryz.ntmps24
    go_wp2_with (first
      | (go_at_call 60; refine CN.out.mono ?_; rintro e w1 ⟨rfl, rfl⟩)
      | (go_at_call 63; refine CT.out.mono ?_; rintro e w2 ⟨rfl, hb2⟩))
    go_ret
    exact ⟨rfl, hb2⟩
  rw [hnm] at CT hm
  have hr : (decide (2000 < (body.length : Int)) = true) ∨ (decide (2000 < (body.length : Int)) = false ∧ decide (qos < 0) = true) ∨ (decide (2000 < (body.length : Int)) = false ∧ decide (qos < 0) = false ∧ decide (2 < qos) = true) := by
    simp at hm ⊢
    omega
  clear hm hnm
  rcases hr with e1 | ⟨e1, e2⟩ | ⟨e1, e2, e3⟩
  · skip
    go_enter Tryz.func24, Tryz.ntmps24
    go_wp2_with (first
      | (go_at_call 60; refine CN.out.mono ?_; rintro e w1 ⟨rfl, rfl⟩)
      | (go_at_call 63; refine CT.out.mono ?_; rintro e w2 ⟨rfl, hb2⟩; have q1 : w2.cell? ⟨b, 1, none⟩ = some (.string ⟨body.toArray⟩) := (HV.out.below hb2).cell 1; have q2 : w2.cell? ⟨b, 2, none⟩ = some (.int .i64 qos) := (HV.out.below hb2).cell 2))
    go_ret
    exact ⟨rfl, hb2⟩
  · skip
    go_enter Tryz.func24, Tryz.ntmps24
    go_wp2_with (first
      | (go_at_call 60; refine CN.out.mono ?_; rintro e w1 ⟨rfl, rfl⟩)
      | (go_at_call 63; refine CT.out.mono ?_; rintro e w2 ⟨rfl, hb2⟩; have q1 : w2.cell? ⟨b, 1, none⟩ = some (.string ⟨body.toArray⟩) := (HV.out.below hb2).cell 1; have q2 : w2.cell? ⟨b, 2, none⟩ = some (.int .i64 qos) := (HV.out.below hb2).cell 2))
    go_ret
    exact ⟨rfl, hb2⟩
  · skip
    go_enter Tryz.func24, Tryz.ntmps24
    go_wp2_with (first
      | (go_at_call 60; refine CN.out.mono ?_; rintro e w1 ⟨rfl, rfl⟩)
      | (go_at_call 63; refine CT.out.mono ?_; rintro e w2 ⟨rfl, hb2⟩; have q1 : w2.cell? ⟨b, 1, none⟩ = some (.string ⟨body.toArray⟩) := (HV.out.below hb2).cell 1; have q2 : w2.cell? ⟨b, 2, none⟩ = some (.int .i64 qos) := (HV.out.below hb2).cell 2))
    go_ret
    exact ⟨rfl, hb2⟩

set_option maxRecDepth 100000 in
set_option maxHeartbeats 800000 in
theorem ses_On_will {w : World} {B : Nat} {S : XLay} {x : XS} (h : XB w B S x) (clean : Bool) (keep now : Int) (b : Nat) (v : WillV) (hv : Blk w b v.vals 67) (hn : 0 ≤ keep ∧ keep ≤ 65535 ∧ 0 ≤ now) (ht : v.topic.length ≤ 1000000) (hm : v.may = true) :
    Calls Tryz.prog 24 #[.pointer (some ⟨S.p, 0, none⟩), .bool clean, .int .i64 keep, .pointer (some ⟨b, 0, none⟩), .int .i64 now] w fun e w' => ∃ wb, e = .returned (.int .i64 0) ∧ w.heap.size ≤ wb ∧ 
      XB w' B { S with wv := some wb } { x with clean := clean, on := true, keep := keep, heard := now, will := some v } ∧ Wrote S.foot w w' := by
  have hbS : b ∉ [S.p] := by simp only [List.mem_singleton]; exact Blk.ne hv h.box (by decide)
  obtain ⟨topic, body, qos, retain⟩ := v
  dsimp only at ht
  have CN := hid (ses_none h)
  have d1 : decide (keep < 0) = false := decide_eq_false (by omega)
  have d2 : decide (65535 < keep) = false := decide_eq_false (by omega)
  have d3 : decide (now < 0) = false := decide_eq_false (by omega)
  have CT := hid (topic_Name topic w (by omega) (anyOK topic (by omega)))
  have c0 : w.cell? ⟨b, 0, none⟩ = some (.string ⟨topic.toArray⟩) := hv.cell 0
  have HV := hid hv
  have H := hid h
  have hsz : ByteArray.size ⟨body.toArray⟩ = body.length := by simp [ByteArray.size]
  unfold WillV.may at hm
  dsimp only at hm
  simp only [Bool.and_eq_true, decide_eq_true_eq] at hm
  obtain ⟨⟨hnm, hbo⟩, hq1, hq2⟩ := hm
  rw [hnm] at CT
  have e1 : decide (2000 < (body.length : Int)) = false := decide_eq_false (by omega)
  have e2 : decide (qos < 0) = false := decide_eq_false (by omega)
  have e3 : decide (2 < qos) = false := decide_eq_false (by omega)
  clear ht h hv hbo hq1 hq2 hnm
  go_enter Tryz.func24, Tryz.ntmps24
  go_wp2_with (first
    | (go_at_call 60; refine CN.out.mono ?_; rintro e w1 ⟨rfl, rfl⟩)
    | (go_at_call 63; refine CT.out.mono ?_; rintro e v2 ⟨rfl, hbT⟩; have q1 : v2.cell? ⟨b, 1, none⟩ = some (.string ⟨body.toArray⟩) := (HV.out.below hbT).cell 1; have q2 : v2.cell? ⟨b, 2, none⟩ = some (.int .i64 qos) := (HV.out.below hbT).cell 2)
    | (refine wpList_store_cell rfl 4 132 _ _ rfl (fun w => by kernel_rfl) S.p 8 _ _ rfl rfl (H.out.box.below hbT) (by simp [XLay.cells]) rfl rfl ?_; intro w2 hb2 hw2)
    | (refine wpList_store_cell rfl 4 132 _ _ rfl (fun w => by kernel_rfl) S.p 7 _ _ rfl rfl hb2 (by simp [XLay.cells]) rfl rfl ?_; intro w3 hb3 hw3)
    | (refine wpList_store_cell rfl 2 132 _ _ rfl (fun w => by kernel_rfl) S.p 9 _ _ rfl rfl hb3 (by simp [XLay.cells]) rfl rfl ?_; intro w4 hb4 hw4)
    | (refine wpList_store_cell rfl 2 132 _ _ rfl (fun w => by kernel_rfl) S.p 10 _ _ rfl rfl hb4 (by simp [XLay.cells]) rfl rfl ?_; intro w5 hb5 hw5)
    | (refine wpList_store_cell rfl 72 132 _ _ rfl (fun w => by kernel_rfl) S.p 11 _ _ rfl rfl hb5 (by simp [XLay.cells]) rfl rfl ?_; intro w6 hb6 hw6; have hw26 := hid ((((hw2.trans hw3).trans hw4).trans hw5).trans hw6))
    | (refine wpList_load_blk rfl 67 _ rfl b (WillV.vals ⟨topic, body, qos, retain⟩) rfl ((HV.out.below hbT).wrote hw26.out hbS) Tryz.underlying67 rfl (by kernel_rfl) ?_)
    | (refine wpList_store_blk rfl 67 67 _ _ rfl 4 (fun w => by kernel_rfl) w6.heap.size _ (WillV.vals ⟨topic, body, qos, retain⟩) rfl rfl (Blk.new w6 _ _) rfl rfl (by simp [Value.oneCell', WillV.vals]) ?_; intro w7 hb7 hw7; have hbox7 := (hb6.alloc _).wrote hw7 (fun hh => by have := hb6.lt; simp only [List.mem_singleton] at hh; omega))
    | (refine wpList_store_cell rfl 72 132 _ _ rfl (fun w => by kernel_rfl) S.p 11 _ _ rfl rfl hbox7 (by simp [XLay.cells]) rfl rfl ?_; intro w8 hb8 hw8))
  go_ret
  have hT := hbT.size
  have h26 := hw26.out.size
  have hall : Wrote [S.p] v2 w8 := ((hw26.out.trans (Wrote.alloc _ _ _)).andNew hw7 (by simp; omega)).trans hw8
  have hwp : w6.heap.size ∉ [S.p] := by have := hb6.lt; simp only [List.mem_singleton]; omega
  refine ⟨w6.heap.size, rfl, by omega, (H.out.below hbT).rebox (some w6.heap.size) clean true keep now (some ⟨topic, body, qos, retain⟩) ⟨hn.1, hn.2.1⟩ hall hb8 ?_ (by simp; omega), ?_⟩
  · exact hb7.wrote hw8 hwp
  · exact ((Wrote.of_below hbT).trans hall).sub (by simp [XLay.foot, XLay.own])
end Go.Proofs.YtoinabapaeebfaaGreatDoor
namespace Go.Proofs.YtoinabapaeebfaaGreatDoor
open Go.RowKit Go.Shelf

theorem flat_get {α : Type} (f : α → List Value) (size : Nat) (hf : ∀ x, (f x).length = size) : ∀ (l : List α) (k j : Nat) (x : α), l[k]? = some x → j < size → (l.flatMap f)[k * size + j]? = (f x)[j]?
  | [], k, j, x, h, _ => by simp at h
  | y :: l, 0, j, x, h, hj => by
    simp only [List.getElem?_cons_zero, Option.some.injEq] at h
    subst h
    rw [List.flatMap_cons, Nat.zero_mul, Nat.zero_add, List.getElem?_append_left (by rw [hf]; exact hj)]
  | y :: l, k + 1, j, x, h, hj => by
    rw [List.getElem?_cons_succ] at h
    rw [List.flatMap_cons, List.getElem?_append_right (by rw [hf, Nat.add_mul]; omega), hf, show (k + 1) * size + j - size = k * size + j by rw [Nat.add_mul]; omega]
    exact flat_get f size hf l k j x h hj
theorem own_range {α : Type} (f : α → List Value) {size : Nat} (hf : ∀ x, (f x).length = size) {w : World} {base : Nat} {e : TypeId} {a : Option Addr} {cap : Nat} {l : List α} {n : Nat} (hn : l.length = n) (h : w.ownsRow base e size (.slice a n cap) n (l.flatMap f)) {k : Nat} {x : α} (hx : l[k]? = some x) :
    ∃ g, a = some ⟨g, 0, none⟩ ∧ n ≤ cap ∧ w.rangeAt g (k * size) (f x) := by
  have hk := (List.getElem?_eq_some_iff.1 hx).1
  have hc := fun g => h.cells (g := g)
  obtain ⟨_, ⟨he, h0⟩ | ⟨g, cap', cur, he, _, _, hn, _⟩⟩ := h
  · omega
  · cases he
    refine ⟨g, rfl, hn, fun j v hj => ?_⟩
    have hjs : j < size := by have := (List.getElem?_eq_some_iff.1 hj).1; rw [hf] at this; exact this
    have := hc g rfl (k * size + j) v (by rw [flat_get f size hf l k j x hx hjs]; exact hj)
    rw [Addr.add_mid, Nat.zero_add] at this
    exact this
theorem PackV.len (p : PackV) : p.cells.length = 24 := rfl
theorem ChangeV.len (c : ChangeV) : c.cells.length = 10 := rfl
end Go.Proofs.YtoinabapaeebfaaGreatDoor
