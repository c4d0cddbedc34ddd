/- Contracts of package session (part 10): Give. -/
import Derived.Test.YtoinabapaeebfaaGreatDoorPk37
import Derived.Test.YtoinabapaeebfaaGreatDoorPk38
import Derived.Test.YtoinabapaeebfaaGreatDoorPk20
set_option linter.unusedSimpArgs false
set_option linter.unusedVariables false
namespace Go.Proofs.YtoinabapaeebfaaGreatDoor
open Go.RowKit Go.Shelf

/-- Behind a call of its outbox. -/
theorem XB.reout {w w' : World} {B : Nat} {S : XLay} {x : XS} (h : XB w B S x) {L' : Lay} {s' : OS} {vp vc : Value} {ps : List PackV} {cs : List ChangeV} (d : DidAt w w' S.o L' s' vp vc ps cs) (hw : s'.window = x.o.window) (hr : s'.room = x.o.room) :
    SDid w w' S { S with o := L' } { x with o := s' } vp vc ps cs := by
  have k : ∀ b ∈ S.own, w'.heap[b]? = w.heap[b]? := fun b hb => d.stp.wrote.block b (h.lt b (List.mem_append_left _ hb)) (h.apart b hb)
  have hbox : Blk w' S.p (XLay.cells { S with o := L' } { x with o := s' }) 132 := by
    have := h.box.keep (k _ (by simp [XLay.own]))
    unfold XLay.cells at this ⊢
    dsimp only
    rw [d.p, hw, hr]
    exact this
  have hown : ∀ b ∈ S.own, b < w.heap.size := fun b hb => h.lt b (List.mem_append_left _ hb)
  refine ⟨⟨hbox, d.ob, d.nil, ⟨h.inb.box.keep (k _ (by simp [XLay.own])), h.inb.set.keep (k _ (by simp [XLay.own]))⟩, h.set, h.wm.keep (k _ (by simp [XLay.own])), h.will.keep (fun b hb => k b (by simp only [XLay.own, List.mem_cons]; exact .inr (.inr (.inr (.inr hb))))), fun b hb => d.stp.not (h.apart b hb) (hown b hb), h.nodup, h.gg, ⟨h.ok.most, h.ok.subs, h.ok.ids, h.ok.under, h.ok.wants, h.ok.keep⟩⟩, rfl,
    ⟨d.stp.wrote.sub (fun b hb => List.mem_append_right _ hb), fun b hb => ?_⟩, d.packs, d.chgs, fun b hb hf => ?_⟩
  · rcases List.mem_append.1 hb with hb | hb
    · exact .inl (List.mem_append_left _ hb)
    · exact (d.stp.sub b hb).imp (List.mem_append_right _) id
  · have hge : w.heap.size ≤ b := by
      rcases List.mem_append.1 hb with hb | hb
      · exact (d.packs.lt b (mem_blk.1 hb)).1
      · exact (d.chgs.lt b (mem_blk.1 hb)).1
    rcases List.mem_append.1 hf with hf | hf
    · have := hown b hf; omega
    · rcases List.mem_append.1 hb with hb | hb
      · exact foot_nil_not d.ob d.nil.1 d.nil.2 d.packs (.inl rfl) b hf hb
      · exact foot_nil_not d.ob d.nil.1 d.nil.2 d.chgs (.inr rfl) b hf hb
/-- Behind writes elsewhere. -/
theorem SDid.step {w w' w2 : World} {S S' : XLay} {x' : XS} {vp vc : Value} {ps : List PackV} {cs : List ChangeV} (d : SDid w w' S S' x' vp vc ps cs) {M : List Nat} (hw : Wrote M w' w2) (hM : ∀ b ∈ M, b ∉ S'.foot ∧ b ∉ blk vp ∧ b ∉ blk vc) (hg : 1 ∉ M) (hn : ∀ b ∈ M, w.heap.size ≤ b) :
    SDid w w2 S S' x' vp vc ps cs :=
  ⟨(d.xb.out hw (fun b hb => (hM b hb).1) hg).top, d.p, ⟨d.stp.wrote.andNew hw hn, d.stp.sub⟩, not_own d.packs hw (fun b hb => (hM b hb).2.1), not_own d.chgs hw (fun b hb => (hM b hb).2.2), d.free⟩
theorem SDid.from {w0 w w' : World} {S S' : XLay} {x' : XS} {vp vc : Value} {ps : List PackV} {cs : List ChangeV} (d : SDid w w' S S' x' vp vc ps cs) (hb : Below w0.heap.size w0 w) : SDid w0 w' S S' x' vp vc ps cs :=
  ⟨d.xb, d.p, (Stp.below hb).trans d.stp, ownsRow_mono d.packs hb.size, ownsRow_mono d.chgs hb.size, d.free⟩

def XS.msg (x : XS) (topic body : List UInt8) (qos : Int) (retain : Bool) : RowV := x.o.row topic body qos retain

set_option maxRecDepth 100000 in
set_option maxHeartbeats 2000000 in
theorem ses_Give_off {w : World} {B : Nat} {S : XLay} {x : XS} (h : XB w B S x) (topic body : List UInt8) (qos : Int) (retain : Bool) (ht : topic.length ≤ 1000000) (hn : nameR topic = true) (hb : (body.length : Int) ≤ 2000) (hq : 1 ≤ qos ∧ qos ≤ 2)
    (hmay : putMay (x.o.row topic body qos retain) = true) (hroom : (x.o.l.length : Int) < x.o.room) (hseq : x.o.seq ≤ 4611686018427387904) (hoff : x.on = false) :
    Calls Tryz.prog 27 #[.pointer (some ⟨S.p, 0, none⟩), .string ⟨topic.toArray⟩, .string ⟨body.toArray⟩, .int .i64 qos, .bool retain] w fun e w' => ∃ vp vc L', e = .returned (.tuple #[.agg #[vp, vc], .bool true, .int .i64 0]) ∧
      SDid w w' S { S with o := L' } { x with o := x.o.put (x.o.row topic body qos retain) } vp vc [] [⟨false, x.o.row topic body qos retain⟩, ⟨false, (x.o.put (x.o.row topic body qos retain)).session⟩] := by
  have CN := hid fun o => ses_none (h.alloc o)
  have CT := hid fun W => topic_Name topic W (by omega) (anyOK topic (by omega))
  rw [hn] at CT
  have hsz : ByteArray.size ⟨body.toArray⟩ = body.length := by simp [ByteArray.size]
  have e1 : decide (2000 < (body.length : Int)) = false := decide_eq_false (by omega)
  have e2 : decide (qos < 0) = false := decide_eq_false (by omega)
  have e3 : decide (2 < qos) = false := decide_eq_false (by omega)
  have e4 : (qos == 0) = false := by simp; omega
  have H := hid h
  have HP := hid fun (W : World) (hX : XB W W.heap.size S x) => out_Put hX.ob hX.nil topic body qos retain (by omega) (anyOK topic (by omega)) hmay hroom hseq
  have HB0 := hid ((Below.refl w.heap.size w).alloc (Nat.le_refl _) (.cells didZ 53))
  obtain ⟨r, hr⟩ : ∃ r, x.o.row topic body qos retain = r := ⟨_, rfl⟩
  rw [hr] at HP ⊢
  clear h hn hb hq ht hmay hroom hseq
  go_enter Tryz.func27, Tryz.ntmps27
  go_wp2_with (first
    | (go_at_call 60; refine (CN.out _).mono ?_; rintro e w0 ⟨rfl, rfl⟩)
    | (go_at_call 63; refine (CT.out _).mono ?_; rintro e w1 ⟨rfl, hb1⟩; have hB1 := hid (HB0.out.trans (hb1.mono (by simp))); have hx1 := hid (H.out.below hB1.out).top; have k0 : w1.cell? ⟨S.p, 0, none⟩ = some (.pointer (some ⟨S.o.p, 0, none⟩)) := hx1.out.box.cell 0; have k8 : w1.cell? ⟨S.p, 8, none⟩ = some (.bool x.on) := hx1.out.box.cell 8; rw [hoff] at k8)
    | fail)
  refine (HP.out w1 hx1.out).mono ?_
  rintro e w2 ⟨vp, vc, L', rfl, d⟩
  have hs1 : w.heap.size < w1.heap.size := by have := hb1.size; simp at this; omega
  have hs2 : w1.heap.size ≤ w2.heap.size := d.stp.size
  have f1 : w.heap.size ∉ S.foot := H.out.foot_lt (Nat.le_refl _)
  have D := hx1.out.reout d rfl rfl
  have f2 : w.heap.size ∉ XLay.foot { S with o := L' } := D.stp.not f1 hs1
  have hZ2 := hid (((Blk.new w didZ 53).below hb1).wrote D.stp.wrote f1)
  have o1 := own_one D.packs
  have o2 := own_one D.chgs
  have b1 : ∀ y, (y ∈ blk vp ∨ y ∈ blk vc) → w1.heap.size ≤ y ∧ y < w2.heap.size := fun y hy => by
    rcases hy with hy | hy
    · exact D.packs.lt y (mem_blk.1 hy)
    · exact D.chgs.lt y (mem_blk.1 hy)
  replace D := hid D
  clear d
  go_wp2_with (first
    | (refine wpList_store_blk rfl 53 53 _ _ rfl 2 (fun w => by kernel_rfl) w2.heap.size _ #[vp, vc] rfl rfl (Blk.new w2 _ _) rfl rfl (by simp [o1, o2]) ?_; intro w3 hb3 hw3; have hw23 := hid ((Wrote.alloc [w2.heap.size] w2 (.cells didZ 53)).trans hw3); have D3 := hid (D.out.step hw23.out (by intro y hy; simp only [List.mem_singleton] at hy; subst hy; exact ⟨D.out.xb.foot_lt (Nat.le_refl _), fun hh => by have := (b1 _ (.inl hh)).2; omega, fun hh => by have := (b1 _ (.inr hh)).2; omega⟩) (by have := D.out.xb.ob.tz.lt; simp only [List.mem_singleton]; omega) (by simp; omega)); have hZ3 := hid (hZ2.out.wrote hw23.out (by simp only [List.mem_singleton]; omega)); have q8 : w3.cell? ⟨S.p, 8, none⟩ = some (.bool x.on) := D3.out.xb.box.cell 8; rw [hoff] at q8)
    | (refine wpList_load_blk rfl 53 _ rfl w2.heap.size #[vp, vc] rfl hb3 Tryz.underlying53 rfl (by kernel_rfl) ?_)
    | (refine wpList_store_blk rfl 53 53 _ _ rfl 2 (fun w => by kernel_rfl) w.heap.size _ #[vp, vc] rfl rfl hZ3.out rfl rfl (by simp [o1, o2]) ?_; intro w4 hb4 hw4))
  refine bodyPost_ret (results_ctt Tryz.results27 rfl (run_loadVar_blk hb4 53 Tryz.underlying53 rfl (by kernel_rfl)) rfl rfl) rfl ?_
  refine ⟨vp, vc, L', rfl, (D3.out.from hB1.out).step hw4 (by intro y hy; simp only [List.mem_singleton] at hy; subst hy; exact ⟨f2, fun hh => by have := (b1 _ (.inl hh)).1; omega, fun hh => by have := (b1 _ (.inr hh)).1; omega⟩) (by have := H.out.ob.tz.lt; simp only [List.mem_singleton]; omega) (by simp)⟩

set_option maxRecDepth 100000 in
set_option maxHeartbeats 2000000 in
theorem ses_Give_on {w : World} {B : Nat} {S : XLay} {x : XS} (h : XB w B S x) (topic body : List UInt8) (qos : Int) (retain : Bool) (ht : topic.length ≤ 1000000) (hn : nameR topic = true) (hb : (body.length : Int) ≤ 2000) (hq : 1 ≤ qos ∧ qos ≤ 2)
    (hmay : putMay (x.o.row topic body qos retain) = true) (hroom : (x.o.l.length : Int) < x.o.room) (hseq : x.o.seq ≤ 4611686018427387904) (hoff : x.on = true) :
    Calls Tryz.prog 27 #[.pointer (some ⟨S.p, 0, none⟩), .string ⟨topic.toArray⟩, .string ⟨body.toArray⟩, .int .i64 qos, .bool retain] w fun e w' => ∃ vp vc L', e = .returned (.tuple #[.agg #[vp, vc], .bool true, .int .i64 0]) ∧
      SDid w w' S { S with o := L' } { x with o := ((x.o.put (x.o.row topic body qos retain)).start.all.fin (x.o.seq + 1) x.o.id).s } vp vc ((x.o.put (x.o.row topic body qos retain)).start.all.fin (x.o.seq + 1) x.o.id).ps
        (⟨false, x.o.row topic body qos retain⟩ :: ⟨false, (x.o.put (x.o.row topic body qos retain)).session⟩ :: ((x.o.put (x.o.row topic body qos retain)).start.all.fin (x.o.seq + 1) x.o.id).cs) := by
  have CN := hid fun o => ses_none (h.alloc o)
  have CT := hid fun W => topic_Name topic W (by omega) (anyOK topic (by omega))
  rw [hn] at CT
  have hsz : ByteArray.size ⟨body.toArray⟩ = body.length := by simp [ByteArray.size]
  have e1 : decide (2000 < (body.length : Int)) = false := decide_eq_false (by omega)
  have e2 : decide (qos < 0) = false := decide_eq_false (by omega)
  have e3 : decide (2 < qos) = false := decide_eq_false (by omega)
  have e4 : (qos == 0) = false := by simp; omega
  have H := hid h
  have HP := hid fun (W : World) (hX : XB W W.heap.size S x) => out_Put hX.ob hX.nil topic body qos retain (by omega) (anyOK topic (by omega)) hmay hroom hseq
  have HB0 := hid ((Below.refl w.heap.size w).alloc (Nat.le_refl _) (.cells didZ 53))
  obtain ⟨r, hr⟩ : ∃ r, x.o.row topic body qos retain = r := ⟨_, rfl⟩
  rw [hr] at HP ⊢
  obtain ⟨s1, hs1e⟩ : ∃ s1, x.o.put r = s1 := ⟨_, rfl⟩
  have hsq : s1.seq = x.o.seq + 1 ∧ s1.id = x.o.id ∧ s1.window = x.o.window ∧ s1.room = x.o.room := by rw [← hs1e]; exact ⟨rfl, rfl, rfl, rfl⟩
  rw [hs1e] at HP ⊢
  rw [← hsq.1, ← hsq.2.1]
  obtain ⟨X2, hX2⟩ : ∃ X2, s1.start.all.fin s1.seq s1.id = X2 := ⟨_, rfl⟩
  rw [hX2]
  clear h hn hb hq ht hmay hroom hseq
  go_enter Tryz.func27, Tryz.ntmps27
  go_wp2_with (first
    | (go_at_call 60; refine (CN.out _).mono ?_; rintro e w0 ⟨rfl, rfl⟩)
    | (go_at_call 63; refine (CT.out _).mono ?_; rintro e w1 ⟨rfl, hb1⟩; have hB1 := hid (HB0.out.trans (hb1.mono (by simp))); have hx1 := hid (H.out.below hB1.out).top; have k0 : w1.cell? ⟨S.p, 0, none⟩ = some (.pointer (some ⟨S.o.p, 0, none⟩)) := hx1.out.box.cell 0; have k8 : w1.cell? ⟨S.p, 8, none⟩ = some (.bool x.on) := hx1.out.box.cell 8; rw [hoff] at k8)
    | fail)
  refine (HP.out w1 hx1.out).mono ?_
  rintro e w2 ⟨vp, vc, L', rfl, d⟩
  have hs1 : w.heap.size < w1.heap.size := by have := hb1.size; simp at this; omega
  have hs2 : w1.heap.size ≤ w2.heap.size := d.stp.size
  have f1 : w.heap.size ∉ S.foot := H.out.foot_lt (Nat.le_refl _)
  have D := hx1.out.reout d hsq.2.2.1 hsq.2.2.2
  have f2 : w.heap.size ∉ XLay.foot { S with o := L' } := D.stp.not f1 hs1
  have hZ2 := hid (((Blk.new w didZ 53).below hb1).wrote D.stp.wrote f1)
  have o1 := own_one D.packs
  have o2 := own_one D.chgs
  have b1 : ∀ y, (y ∈ blk vp ∨ y ∈ blk vc) → w1.heap.size ≤ y ∧ y < w2.heap.size := fun y hy => by
    rcases hy with hy | hy
    · exact D.packs.lt y (mem_blk.1 hy)
    · exact D.chgs.lt y (mem_blk.1 hy)
  replace D := hid D
  clear d
  go_wp2_with (first
    | (refine wpList_store_blk rfl 53 53 _ _ rfl 2 (fun w => by kernel_rfl) w2.heap.size _ #[vp, vc] rfl rfl (Blk.new w2 _ _) rfl rfl (by simp [o1, o2]) ?_; intro w3 hb3 hw3; have hw23 := hid ((Wrote.alloc [w2.heap.size] w2 (.cells didZ 53)).trans hw3); have D3 := hid (D.out.step hw23.out (by intro y hy; simp only [List.mem_singleton] at hy; subst hy; exact ⟨D.out.xb.foot_lt (Nat.le_refl _), fun hh => by have := (b1 _ (.inl hh)).2; omega, fun hh => by have := (b1 _ (.inr hh)).2; omega⟩) (by have := D.out.xb.ob.tz.lt; simp only [List.mem_singleton]; omega) (by simp; omega)); have hZ3 := hid (hZ2.out.wrote hw23.out (by simp only [List.mem_singleton]; omega)); have q8 : w3.cell? ⟨S.p, 8, none⟩ = some (.bool x.on) := D3.out.xb.box.cell 8; rw [hoff] at q8; have q0 : w3.cell? ⟨S.p, 0, none⟩ = some (.pointer (some ⟨L'.p, 0, none⟩)) := D3.out.xb.box.cell 0)
    | fail)
  have hX3 := hid D3.out.xb
  have hsl : s1.l.length ≤ 1000 := by have := hX3.out.ob.ok.room; dsimp only at this; omega
  have hXl : X2.ps.length ≤ 1000000 ∧ X2.cs.length ≤ 1000000 := by
    rw [← hX2]
    have h1 := all_len s1.start (by show s1.l.length ≤ 1000; exact hsl)
    have h2 : s1.start.ps.length = 0 ∧ s1.start.cs.length = 0 := ⟨rfl, rfl⟩
    unfold SS.fin
    refine ⟨by show s1.start.all.ps.length ≤ _; omega, ?_⟩
    show (s1.start.all.cs ++ _).length ≤ _
    rw [List.length_append]
    split <;> simp <;> omega
  have hXw : X2.s.window = s1.window ∧ X2.s.room = s1.room := by
    rw [← hX2]
    exact ⟨(sends_same s1.start _).2.2.1, (sends_same s1.start _).2.2.2⟩
  have HS := out_Send hX3.out.ob hX3.out.nil
  rw [hX2] at HS
  refine HS.mono ?_
  rintro e w5 ⟨vp2, vc2, L2, rfl, d5⟩
  have D5 : SDid w3 w5 { S with o := L' } { S with o := L2 } { x with o := X2.s } vp2 vc2 X2.ps X2.cs := hX3.out.reout d5 hXw.1 hXw.2
  have hs3 : w2.heap.size < w3.heap.size := hb3.lt
  have hs5 : w3.heap.size ≤ w5.heap.size := d5.stp.size
  have f3 : w2.heap.size ∉ XLay.foot { S with o := L' } := D.out.xb.foot_lt (Nat.le_refl _)
  have f5 : w2.heap.size ∉ XLay.foot { S with o := L2 } := D5.stp.not f3 hs3
  have f6 : w.heap.size ∉ XLay.foot { S with o := L2 } := D5.stp.not f2 (by omega)
  have P5 := hid (not_own D3.out.packs D5.stp.wrote (fun b hb hbb => D3.out.free b (List.mem_append_left _ hbb) hb))
  have C5 := hid (not_own D3.out.chgs D5.stp.wrote (fun b hb hbb => D3.out.free b (List.mem_append_right _ hbb) hb))
  have hb5 := hid (hb3.wrote D5.stp.wrote f3)
  have hZ5 := hid (hZ3.out.wrote D5.stp.wrote f2)
  have o3 := own_one D5.packs
  have o4 := own_one D5.chgs
  have b5 : ∀ y, (y ∈ blk vp2 ∨ y ∈ blk vc2) → w3.heap.size ≤ y ∧ y < w5.heap.size := fun y hy => by
    rcases hy with hy | hy
    · exact D5.packs.lt y (mem_blk.1 hy)
    · exact D5.chgs.lt y (mem_blk.1 hy)
  replace D5 := hid D5
  clear d5 HS
  go_wp2_with (first
    | (refine wpList_store_blk rfl 53 53 _ _ rfl 2 (fun w => by kernel_rfl) w5.heap.size _ #[vp2, vc2] rfl rfl (Blk.new w5 _ _) rfl rfl (by simp [o3, o4]) ?_; intro w6 hb6 hw6; have hw56 := hid ((Wrote.alloc [w5.heap.size] w5 (.cells didZ 53)).trans hw6); have D6 := hid (D5.out.step hw56.out (by intro y hy; simp only [List.mem_singleton] at hy; subst hy; exact ⟨D5.out.xb.foot_lt (Nat.le_refl _), fun hh => by have := (b5 _ (.inl hh)).2; omega, fun hh => by have := (b5 _ (.inr hh)).2; omega⟩) (by have := D5.out.xb.ob.tz.lt; simp only [List.mem_singleton]; omega) (by simp; omega)); have hb36 := hid (hb5.out.wrote hw56.out (by simp only [List.mem_singleton]; omega)))
    | (refine wpList_load_blk rfl 53 _ rfl w2.heap.size #[vp, vc] rfl hb36.out Tryz.underlying53 rfl (by kernel_rfl) ?_)
    | (refine wpList_load_blk rfl 53 _ rfl w5.heap.size #[vp2, vc2] rfl hb6 Tryz.underlying53 rfl (by kernel_rfl) ?_)
    | fail)
  have hs6 : w5.heap.size < w6.heap.size := hb6.lt
  have hBa : Below w6.heap.size w6 (w6.alloc (.cells #[vp, vc, vp2, vc2] 53)) := (Below.refl _ w6).alloc (Nat.le_refl _) _
  have P6 := ownsRow_below (not_own P5.out hw56.out (fun b hb hbb => by simp only [List.mem_singleton] at hb; subst hb; have := (b1 _ (.inl hbb)).2; omega)) hBa
  have C6 := ownsRow_below (not_own C5.out hw56.out (fun b hb hbb => by simp only [List.mem_singleton] at hb; subst hb; have := (b1 _ (.inr hbb)).2; omega)) hBa
  have hDA : DidsAt (w6.alloc (.cells #[vp, vc, vp2, vc2] 53)) w.heap.size w6.heap.size [⟨vp, vc, [], [⟨false, r⟩, ⟨false, s1.session⟩]⟩, ⟨vp2, vc2, X2.ps, X2.cs⟩] := by
    refine ⟨Blk.new w6 _ _, fun d hd => ?_, fun d hd => ?_, fun d hd => ?_⟩
    · simp only [List.mem_cons, List.not_mem_nil, or_false] at hd
      rcases hd with rfl | rfl
      · exact ownsRow_mono P6 (by omega)
      · exact ownsRow_mono (ownsRow_below D6.out.packs hBa) (by omega)
    · simp only [List.mem_cons, List.not_mem_nil, or_false] at hd
      rcases hd with rfl | rfl
      · exact ownsRow_mono C6 (by omega)
      · exact ownsRow_mono (ownsRow_below D6.out.chgs hBa) (by omega)
    · simp only [List.mem_cons, List.not_mem_nil, or_false] at hd
      rcases hd with rfl | rfl
      · exact ⟨by simp, by simp⟩
      · exact hXl
  have HT := ses_together w.heap.size w6.heap.size [⟨vp, vc, [], [⟨false, r⟩, ⟨false, s1.session⟩]⟩, ⟨vp2, vc2, X2.ps, X2.cs⟩] _ hDA (by simp) (by simp; omega)
  refine HT.mono ?_
  rintro e w8 ⟨vp3, vc3, rfl, hb8, hp8, hc8⟩
  simp only [List.flatMap_cons, List.flatMap_nil, List.append_nil, List.nil_append] at hp8 hc8
  have hB8 : Below w6.heap.size w6 w8 := hBa.trans (hb8.mono hBa.size)
  have hs8 : w6.heap.size < w8.heap.size := by have := hb8.size; simp at this; omega
  have hb38 := hid (hb36.out.below hB8)
  have o5 := own_one hp8
  have o6 := own_one hc8
  have b8 : ∀ y, (y ∈ blk vp3 ∨ y ∈ blk vc3) → w6.heap.size < y ∧ y < w8.heap.size := fun y hy => by
    rcases hy with hy | hy
    · have := hp8.lt y (mem_blk.1 hy); simp at this; omega
    · have := hc8.lt y (mem_blk.1 hy); simp at this; omega
  have hp8 := hid hp8
  have hc8 := hid hc8
  clear HT hDA
  go_wp2_with (first
    | (refine wpList_store_blk rfl 53 53 _ _ rfl 2 (fun w => by kernel_rfl) w2.heap.size _ #[vp3, vc3] rfl rfl hb38.out rfl rfl (by simp [o5, o6]) ?_; intro w9 hb9 hw9)
    | (refine wpList_load_blk rfl 53 _ rfl w2.heap.size #[vp3, vc3] rfl hb9 Tryz.underlying53 rfl (by kernel_rfl) ?_)
    | (refine wpList_store_blk rfl 53 53 _ _ rfl 2 (fun w => by kernel_rfl) w.heap.size _ #[vp3, vc3] rfl rfl (((hZ5.out.wrote hw56.out (by simp only [List.mem_singleton]; omega)).below hB8).wrote hw9 (by simp only [List.mem_singleton]; omega)) rfl rfl (by simp [o5, o6]) ?_; intro w10 hb10 hw10))
  refine bodyPost_ret (results_ctt Tryz.results27 rfl (run_loadVar_blk hb10 53 Tryz.underlying53 rfl (by kernel_rfl)) rfl rfl) rfl ?_
  have hgl : 1 < w.heap.size := by have := H.out.ob.tz.lt; omega
  have hX10 := ((D6.out.xb.below hB8).out hw9 (by simpa using f5) (by simp only [List.mem_singleton]; omega)).out hw10 (by simpa using f6) (by simp only [List.mem_singleton]; omega)
  have hst := ((D3.out.from hB1.out).stp.trans D6.out.stp).trans (Stp.below hB8)
  refine ⟨vp3, vc3, L2, rfl, hX10.top, rfl, ⟨(hst.wrote.andNew hw9 (by simp; omega)).andNew hw10 (by simp), hst.sub⟩, ?_, ?_, ?_⟩
  · exact ownsRow_mono (not_own (not_own hp8.out hw9 (fun b hb hbb => by simp only [List.mem_singleton] at hb; subst hb; have := (b8 _ (.inl hbb)).1; omega)) hw10 (fun b hb hbb => by simp only [List.mem_singleton] at hb; subst hb; have := (b8 _ (.inl hbb)).1; omega)) (by simp; omega)
  · have := ownsRow_mono (base' := w.heap.size) (not_own (not_own hc8.out hw9 (fun b hb hbb => by simp only [List.mem_singleton] at hb; subst hb; have := (b8 _ (.inr hbb)).1; omega)) hw10 (fun b hb hbb => by simp only [List.mem_singleton] at hb; subst hb; have := (b8 _ (.inr hbb)).1; omega)) (by simp; omega)
    simpa using this
  · intro b hb hf
    have h1 := D6.out.xb.lt b hf
    have h2 : w6.heap.size < b := by rcases List.mem_append.1 hb with hb | hb; exact (b8 b (.inl hb)).1; exact (b8 b (.inr hb)).1
    omega

end Go.Proofs.YtoinabapaeebfaaGreatDoor
