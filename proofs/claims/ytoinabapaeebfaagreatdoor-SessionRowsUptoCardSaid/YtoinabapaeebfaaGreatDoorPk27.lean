/- Parts of the proof of SessionRows: contracts of functions that it reaches, and plain lemmas. No condition of their own. -/
import Derived.Test.YtoinabapaeebfaaGreatDoorPk26
import Derived.Test.YtoinabapaeebfaaGreatDoorPk10
import Derived.Test.YtoinabapaeebfaaGreatDoorPk22
import Derived.Test.YtoinabapaeebfaaGreatDoorPk21
import Derived.Test.YtoinabapaeebfaaGreatDoorPk15
import Derived.Test.YtoinabapaeebfaaGreatDoorPk06
import Derived.Lib.TrailingZeros
set_option linter.unusedSimpArgs false
set_option linter.unusedVariables false
set_option maxRecDepth 100000
set_option maxHeartbeats 8000000
namespace Go.Proofs.YtoinabapaeebfaaGreatDoor
open Go.RowKit Go.Shelf
section
theorem XB.reout {w w' : World} {B : Nat} {S : XLay} {x : XS} (h : XB w B S x) {L' : Lay} {s' : OS} {vp vc : Value} {ps : List PackV} {cs : List ChangeV} (d : DidAt w w' S.o L' s' vp vc ps cs) (hw : s'.window = x.o.window) (hr : s'.room = x.o.room) :
  SDid w w' S { S with o := L' } { x with o := s' } vp vc ps cs := by
 have k : ∀ b ∈ S.own, w'.heap[b]? = w.heap[b]? := fun b hb => d.stp.wrote.block b (h.lt b (List.mem_append_left _ hb)) (h.apart b hb)
 have hbox : Blk w' S.p (XLay.cells { S with o := L' } { x with o := s' }) 132 := by
  have := h.box.keep (k _ (by simp [XLay.own]))
  unfold XLay.cells at this ⊢
  dsimp only
  rw [d.p, hw, hr]
  exact this
 have hown : ∀ b ∈ S.own, b < w.heap.size := fun b hb => h.lt b (List.mem_append_left _ hb)
 refine ⟨⟨hbox, d.ob, d.nil, ⟨h.inb.box.keep (k _ (by simp [XLay.own])), h.inb.set.keep (k _ (by simp [XLay.own]))⟩, h.set, h.wm.keep (k _ (by simp [XLay.own])), h.will.keep (fun b hb => k b (by simp only [XLay.own, List.mem_cons]; exact .inr (.inr (.inr (.inr hb))))), fun b hb => d.stp.not (h.apart b hb) (hown b hb), h.nodup, h.gg, ⟨h.ok.most, h.ok.subs, h.ok.ids, h.ok.under, h.ok.wants, h.ok.keep⟩⟩, rfl,
  ⟨d.stp.wrote.sub (fun b hb => List.mem_append_right _ hb), fun b hb => ?_⟩, d.packs, d.chgs, fun b hb hf => ?_⟩
 ·rcases List.mem_append.1 hb with hb | hb
  ·exact .inl (List.mem_append_left _ hb)
  ·exact (d.stp.sub b hb).imp (List.mem_append_right _) id
 ·have hge : w.heap.size <= b := by
   rcases List.mem_append.1 hb with hb | hb
   ·exact (d.packs.lt b (mem_blk.1 hb)).1
   ·exact (d.chgs.lt b (mem_blk.1 hb)).1
  rcases List.mem_append.1 hf with hf | hf
  ·have := hown b hf; omega
  ·rcases List.mem_append.1 hb with hb | hb
   ·exact foot_nil_not d.ob d.nil.1 d.nil.2 d.packs (.inl rfl) b hf hb
   ·exact foot_nil_not d.ob d.nil.1 d.nil.2 d.chgs (.inr rfl) b hf hb
theorem SDid.step {w w' w2 : World} {S S' : XLay} {x' : XS} {vp vc : Value} {ps : List PackV} {cs : List ChangeV} (d : SDid w w' S S' x' vp vc ps cs) {M : List Nat} (hw : Wrote M w' w2) (hM : ∀ b ∈ M, b ∉ S'.foot /\ b ∉ blk vp /\ b ∉ blk vc) (hg : 1 ∉ M) (hn : ∀ b ∈ M, w.heap.size <= b) :
  SDid w w2 S S' x' vp vc ps cs :=
 ⟨(d.xb.out hw (fun b hb => (hM b hb).1) hg).top, d.p, ⟨d.stp.wrote.andNew hw hn, d.stp.sub⟩, not_own d.packs hw (fun b hb => (hM b hb).2.1), not_own d.chgs hw (fun b hb => (hM b hb).2.2), d.free⟩
theorem SDid.from {w0 w w' : World} {S S' : XLay} {x' : XS} {vp vc : Value} {ps : List PackV} {cs : List ChangeV} (d : SDid w w' S S' x' vp vc ps cs) (hb : Below w0.heap.size w0 w) : SDid w0 w' S S' x' vp vc ps cs :=
 ⟨d.xb, d.p, (Stp.below hb).trans d.stp, ownsRow_mono d.packs hb.size, ownsRow_mono d.chgs hb.size, d.free⟩
theorem ses_Give_off {w : World} {B : Nat} {S : XLay} {x : XS} (h : XB w B S x) (topic body : List UInt8) (qos : Int) (retain : Bool) (ht : topic.length <= 1000000) (hn : nameR topic = true) (hb : (body.length : Int) <= 2000) (hq : 1 <= qos /\ qos <= 2)
  (hmay : putMay (x.o.row topic body qos retain) = true) (hroom : (x.o.l.length : Int) < x.o.room) (hseq : x.o.seq <= 4611686018427387904) (hoff : x.on = false) :
  Calls Tryz.prog 27 #[.pointer (some ⟨S.p, 0, none⟩), .string ⟨topic.toArray⟩, .string ⟨body.toArray⟩, .int .i64 qos, .bool retain] w fun e w' => ∃ vp vc L', e = .returned (.tuple #[.agg #[vp, vc], .bool true, .int .i64 0]) /\
   SDid w w' S { S with o := L' } { x with o := x.o.put (x.o.row topic body qos retain) } vp vc [] [⟨false, x.o.row topic body qos retain⟩, ⟨false, (x.o.put (x.o.row topic body qos retain)).session⟩] := by
 have CN := hid fun o => ses_none (h.alloc o)
 have CT := hid fun W => topic_Name topic W (by omega) (anyOK topic (by omega))
 rw [hn] at CT
 have hsz : ByteArray.size ⟨body.toArray⟩ = body.length := by simp [ByteArray.size]
 have e1 : decide (2000 < (body.length : Int)) = false := decide_eq_false (by omega)
 have e2 : decide (qos < 0) = false := decide_eq_false (by omega)
 have e3 : decide (2 < qos) = false := decide_eq_false (by omega)
 have e4 : (qos == 0) = false := by simp; omega
 have H := hid h;have HP := hid fun (W : World) (hX : XB W W.heap.size S x) => out_Put hX.ob hX.nil topic body qos retain (by omega) (anyOK topic (by omega)) hmay hroom hseq
 have HB0 := hid ((Below.refl w.heap.size w).alloc (Nat.le_refl _) (.cells didZ 53))
 obtain ⟨r, hr⟩ : ∃ r, x.o.row topic body qos retain = r := ⟨_, rfl⟩
 rw [hr] at HP ⊢
 clear h hn hb hq ht hmay hroom hseq;go_enter Tryz.func27, Tryz.ntmps27
 go_wp2_with (first
  | (go_at_call 60; refine (CN.out _).mono ?_; rintro e w0 ⟨rfl, rfl⟩)
  | (go_at_call 63; refine (CT.out _).mono ?_; rintro e w1 ⟨rfl, hb1⟩; have hB1 := hid (HB0.out.trans (hb1.mono (by simp))); have hx1 := hid (H.out.below hB1.out).top; have k0 : w1.cell? ⟨S.p, 0, none⟩ = some (.pointer (some ⟨S.o.p, 0, none⟩)) := hx1.out.box.cell 0; have k8 : w1.cell? ⟨S.p, 8, none⟩ = some (.bool x.on) := hx1.out.box.cell 8; rw [hoff] at k8)
  | fail)
 refine (HP.out w1 hx1.out).mono ?_
 rintro e w2 ⟨vp, vc, L', rfl, d⟩
 have hs1 : w.heap.size < w1.heap.size := by have := hb1.size; simp at this; omega
 have hs2 : w1.heap.size <= w2.heap.size := d.stp.size
 have f1 : w.heap.size ∉ S.foot := H.out.foot_lt (Nat.le_refl _)
 have D := hx1.out.reout d rfl rfl
 have f2 : w.heap.size ∉ XLay.foot { S with o := L' } := D.stp.not f1 hs1
 have hZ2 := hid (((Blk.new w didZ 53).below hb1).wrote D.stp.wrote f1)
 have o1 := own_one D.packs
 have o2 := own_one D.chgs
 have b1 : ∀ y, (y ∈ blk vp \/ y ∈ blk vc) -> w1.heap.size <= y /\ y < w2.heap.size := fun y hy => by
  rcases hy with hy | hy
  ·exact D.packs.lt y (mem_blk.1 hy)
  ·exact D.chgs.lt y (mem_blk.1 hy)
 replace D := hid D;clear d
 go_wp2_with (first
  | (refine wS 53 2 rfl w2.heap.size _ #[vp, vc] rfl rfl (Blk.new w2 _ _) rfl rfl (by simp [o1, o2]) ?_; intro w3 hb3 hw3; have hw23 := hid ((Wrote.alloc [w2.heap.size] w2 (.cells didZ 53)).trans hw3); have D3 := hid (D.out.step hw23.out (by intro y hy; simp only [List.mem_singleton] at hy; subst hy; exact ⟨D.out.xb.foot_lt (Nat.le_refl _), fun hh => by have := (b1 _ (.inl hh)).2; omega, fun hh => by have := (b1 _ (.inr hh)).2; omega⟩) (by have := D.out.xb.ob.tz.lt; simp only [List.mem_singleton]; omega) (by simp; omega)); have hZ3 := hid (hZ2.out.wrote hw23.out (by simp only [List.mem_singleton]; omega)); have q8 : w3.cell? ⟨S.p, 8, none⟩ = some (.bool x.on) := D3.out.xb.box.cell 8; rw [hoff] at q8)
  | (refine wL 53 rfl rfl hb3 Tryz.underlying53 ?_)
  | (refine wS 53 2 rfl w.heap.size _ #[vp, vc] rfl rfl hZ3.out rfl rfl (by simp [o1, o2]) ?_; intro w4 hb4 hw4))
 refine bodyPost_ret (results_ctt Tryz.results27 rfl (run_loadVar_blk hb4 53 Tryz.underlying53 rfl (by kernel_rfl)) rfl rfl) rfl ?_
 refine ⟨vp, vc, L', rfl, (D3.out.from hB1.out).step hw4 (by intro y hy; simp only [List.mem_singleton] at hy; subst hy; exact ⟨f2, fun hh => by have := (b1 _ (.inl hh)).1; omega, fun hh => by have := (b1 _ (.inr hh)).1; omega⟩) (by have := H.out.ob.tz.lt; simp only [List.mem_singleton]; omega) (by simp)⟩
theorem ses_Give_on {w : World} {B : Nat} {S : XLay} {x : XS} (h : XB w B S x) (topic body : List UInt8) (qos : Int) (retain : Bool) (ht : topic.length <= 1000000) (hn : nameR topic = true) (hb : (body.length : Int) <= 2000) (hq : 1 <= qos /\ qos <= 2)
  (hmay : putMay (x.o.row topic body qos retain) = true) (hroom : (x.o.l.length : Int) < x.o.room) (hseq : x.o.seq <= 4611686018427387904) (hoff : x.on = true) :
  Calls Tryz.prog 27 #[.pointer (some ⟨S.p, 0, none⟩), .string ⟨topic.toArray⟩, .string ⟨body.toArray⟩, .int .i64 qos, .bool retain] w fun e w' => ∃ vp vc L', e = .returned (.tuple #[.agg #[vp, vc], .bool true, .int .i64 0]) /\
   SDid w w' S { S with o := L' } { x with o := ((x.o.put (x.o.row topic body qos retain)).start.all.fin (x.o.seq + 1) x.o.id).s } vp vc ((x.o.put (x.o.row topic body qos retain)).start.all.fin (x.o.seq + 1) x.o.id).ps
    (⟨false, x.o.row topic body qos retain⟩ :: ⟨false, (x.o.put (x.o.row topic body qos retain)).session⟩ :: ((x.o.put (x.o.row topic body qos retain)).start.all.fin (x.o.seq + 1) x.o.id).cs) := by
 have CN := hid fun o => ses_none (h.alloc o)
 have CT := hid fun W => topic_Name topic W (by omega) (anyOK topic (by omega))
 rw [hn] at CT
 have hsz : ByteArray.size ⟨body.toArray⟩ = body.length := by simp [ByteArray.size]
 have e1 : decide (2000 < (body.length : Int)) = false := decide_eq_false (by omega)
 have e2 : decide (qos < 0) = false := decide_eq_false (by omega)
 have e3 : decide (2 < qos) = false := decide_eq_false (by omega)
 have e4 : (qos == 0) = false := by simp; omega
 have H := hid h;have HP := hid fun (W : World) (hX : XB W W.heap.size S x) => out_Put hX.ob hX.nil topic body qos retain (by omega) (anyOK topic (by omega)) hmay hroom hseq
 have HB0 := hid ((Below.refl w.heap.size w).alloc (Nat.le_refl _) (.cells didZ 53))
 obtain ⟨r, hr⟩ : ∃ r, x.o.row topic body qos retain = r := ⟨_, rfl⟩
 rw [hr] at HP ⊢
 obtain ⟨s1, hs1e⟩ : ∃ s1, x.o.put r = s1 := ⟨_, rfl⟩
 have hsq : s1.seq = x.o.seq + 1 /\ s1.id = x.o.id /\ s1.window = x.o.window /\ s1.room = x.o.room := by rw [<- hs1e]; exact ⟨rfl, rfl, rfl, rfl⟩
 rw [hs1e] at HP ⊢
 rw [<- hsq.1, <- hsq.2.1]
 obtain ⟨X2, hX2⟩ : ∃ X2, s1.start.all.fin s1.seq s1.id = X2 := ⟨_, rfl⟩
 rw [hX2]
 clear h hn hb hq ht hmay hroom hseq;go_enter Tryz.func27, Tryz.ntmps27
 go_wp2_with (first
  | (go_at_call 60; refine (CN.out _).mono ?_; rintro e w0 ⟨rfl, rfl⟩)
  | (go_at_call 63; refine (CT.out _).mono ?_; rintro e w1 ⟨rfl, hb1⟩; have hB1 := hid (HB0.out.trans (hb1.mono (by simp))); have hx1 := hid (H.out.below hB1.out).top; have k0 : w1.cell? ⟨S.p, 0, none⟩ = some (.pointer (some ⟨S.o.p, 0, none⟩)) := hx1.out.box.cell 0; have k8 : w1.cell? ⟨S.p, 8, none⟩ = some (.bool x.on) := hx1.out.box.cell 8; rw [hoff] at k8)
  | fail)
 refine (HP.out w1 hx1.out).mono ?_
 rintro e w2 ⟨vp, vc, L', rfl, d⟩
 have hs1 : w.heap.size < w1.heap.size := by have := hb1.size; simp at this; omega
 have hs2 : w1.heap.size <= w2.heap.size := d.stp.size
 have f1 : w.heap.size ∉ S.foot := H.out.foot_lt (Nat.le_refl _)
 have D := hx1.out.reout d hsq.2.2.1 hsq.2.2.2
 have f2 : w.heap.size ∉ XLay.foot { S with o := L' } := D.stp.not f1 hs1
 have hZ2 := hid (((Blk.new w didZ 53).below hb1).wrote D.stp.wrote f1)
 have o1 := own_one D.packs
 have o2 := own_one D.chgs
 have b1 : ∀ y, (y ∈ blk vp \/ y ∈ blk vc) -> w1.heap.size <= y /\ y < w2.heap.size := fun y hy => by
  rcases hy with hy | hy
  ·exact D.packs.lt y (mem_blk.1 hy)
  ·exact D.chgs.lt y (mem_blk.1 hy)
 replace D := hid D;clear d
 go_wp2_with (first
  | (refine wS 53 2 rfl w2.heap.size _ #[vp, vc] rfl rfl (Blk.new w2 _ _) rfl rfl (by simp [o1, o2]) ?_; intro w3 hb3 hw3; have hw23 := hid ((Wrote.alloc [w2.heap.size] w2 (.cells didZ 53)).trans hw3); have D3 := hid (D.out.step hw23.out (by intro y hy; simp only [List.mem_singleton] at hy; subst hy; exact ⟨D.out.xb.foot_lt (Nat.le_refl _), fun hh => by have := (b1 _ (.inl hh)).2; omega, fun hh => by have := (b1 _ (.inr hh)).2; omega⟩) (by have := D.out.xb.ob.tz.lt; simp only [List.mem_singleton]; omega) (by simp; omega)); have hZ3 := hid (hZ2.out.wrote hw23.out (by simp only [List.mem_singleton]; omega)); have q8 : w3.cell? ⟨S.p, 8, none⟩ = some (.bool x.on) := D3.out.xb.box.cell 8; rw [hoff] at q8; have q0 : w3.cell? ⟨S.p, 0, none⟩ = some (.pointer (some ⟨L'.p, 0, none⟩)) := D3.out.xb.box.cell 0)
  | fail)
 have hX3 := hid D3.out.xb;have hsl : s1.l.length <= 1000 := by have := hX3.out.ob.ok.room; dsimp only at this; omega
 have hXl : X2.ps.length <= 1000000 /\ X2.cs.length <= 1000000 := by
  rw [<- hX2]
  have h1 := all_len s1.start (by show s1.l.length <= 1000; exact hsl)
  have h2 : s1.start.ps.length = 0 /\ s1.start.cs.length = 0 := ⟨rfl, rfl⟩
  unfold SS.fin
  refine ⟨by show s1.start.all.ps.length <= _; omega, ?_⟩
  show (s1.start.all.cs ++ _).length <= _
  rw [List.length_append]
  split <;> simp <;> omega
 have hXw : X2.s.window = s1.window /\ X2.s.room = s1.room := by
  rw [<- hX2]
  exact ⟨(sends_same s1.start _).2.2.1, (sends_same s1.start _).2.2.2⟩
 have HS := out_Send hX3.out.ob hX3.out.nil
 rw [hX2] at HS
 refine HS.mono ?_
 rintro e w5 ⟨vp2, vc2, L2, rfl, d5⟩
 have D5 : SDid w3 w5 { S with o := L' } { S with o := L2 } { x with o := X2.s } vp2 vc2 X2.ps X2.cs := hX3.out.reout d5 hXw.1 hXw.2
 have hs3 : w2.heap.size < w3.heap.size := hb3.lt
 have hs5 : w3.heap.size <= w5.heap.size := d5.stp.size
 have f3 : w2.heap.size ∉ XLay.foot { S with o := L' } := D.out.xb.foot_lt (Nat.le_refl _)
 have f5 : w2.heap.size ∉ XLay.foot { S with o := L2 } := D5.stp.not f3 hs3
 have f6 : w.heap.size ∉ XLay.foot { S with o := L2 } := D5.stp.not f2 (by omega)
 have P5 := hid (not_own D3.out.packs D5.stp.wrote (fun b hb hbb => D3.out.free b (List.mem_append_left _ hbb) hb))
 have C5 := hid (not_own D3.out.chgs D5.stp.wrote (fun b hb hbb => D3.out.free b (List.mem_append_right _ hbb) hb))
 have hb5 := hid (hb3.wrote D5.stp.wrote f3)
 have hZ5 := hid (hZ3.out.wrote D5.stp.wrote f2)
 have o3 := own_one D5.packs
 have o4 := own_one D5.chgs
 have b5 : ∀ y, (y ∈ blk vp2 \/ y ∈ blk vc2) -> w3.heap.size <= y /\ y < w5.heap.size := fun y hy => by
  rcases hy with hy | hy
  ·exact D5.packs.lt y (mem_blk.1 hy)
  ·exact D5.chgs.lt y (mem_blk.1 hy)
 replace D5 := hid D5;clear d5 HS
 go_wp2_with (first
  | (refine wS 53 2 rfl w5.heap.size _ #[vp2, vc2] rfl rfl (Blk.new w5 _ _) rfl rfl (by simp [o3, o4]) ?_; intro w6 hb6 hw6; have hw56 := hid ((Wrote.alloc [w5.heap.size] w5 (.cells didZ 53)).trans hw6); have D6 := hid (D5.out.step hw56.out (by intro y hy; simp only [List.mem_singleton] at hy; subst hy; exact ⟨D5.out.xb.foot_lt (Nat.le_refl _), fun hh => by have := (b5 _ (.inl hh)).2; omega, fun hh => by have := (b5 _ (.inr hh)).2; omega⟩) (by have := D5.out.xb.ob.tz.lt; simp only [List.mem_singleton]; omega) (by simp; omega)); have hb36 := hid (hb5.out.wrote hw56.out (by simp only [List.mem_singleton]; omega)))
  | (refine wL 53 rfl rfl hb36.out Tryz.underlying53 ?_)
  | (refine wL 53 rfl rfl hb6 Tryz.underlying53 ?_)
  | fail)
 have hs6 : w5.heap.size < w6.heap.size := hb6.lt
 have hBa : Below w6.heap.size w6 (w6.alloc (.cells #[vp, vc, vp2, vc2] 53)) := (Below.refl _ w6).alloc (Nat.le_refl _) _
 have P6 := ownsRow_below (not_own P5.out hw56.out (fun b hb hbb => by simp only [List.mem_singleton] at hb; subst hb; have := (b1 _ (.inl hbb)).2; omega)) hBa
 have C6 := ownsRow_below (not_own C5.out hw56.out (fun b hb hbb => by simp only [List.mem_singleton] at hb; subst hb; have := (b1 _ (.inr hbb)).2; omega)) hBa
 have hDA : DidsAt (w6.alloc (.cells #[vp, vc, vp2, vc2] 53)) w.heap.size w6.heap.size [⟨vp, vc, [], [⟨false, r⟩, ⟨false, s1.session⟩]⟩, ⟨vp2, vc2, X2.ps, X2.cs⟩] := by
  refine ⟨Blk.new w6 _ _, fun d hd => ?_, fun d hd => ?_, fun d hd => ?_⟩
  ·simp only [List.mem_cons, List.not_mem_nil, or_false] at hd
   rcases hd with rfl | rfl
   ·exact ownsRow_mono P6 (by omega)
   ·exact ownsRow_mono (ownsRow_below D6.out.packs hBa) (by omega)
  ·simp only [List.mem_cons, List.not_mem_nil, or_false] at hd
   rcases hd with rfl | rfl
   ·exact ownsRow_mono C6 (by omega)
   ·exact ownsRow_mono (ownsRow_below D6.out.chgs hBa) (by omega)
  ·simp only [List.mem_cons, List.not_mem_nil, or_false] at hd
   rcases hd with rfl | rfl
   ·exact ⟨by simp, by simp⟩
   ·exact hXl
 have HT := ses_together w.heap.size w6.heap.size [⟨vp, vc, [], [⟨false, r⟩, ⟨false, s1.session⟩]⟩, ⟨vp2, vc2, X2.ps, X2.cs⟩] _ hDA (by simp) (by simp; omega)
 refine HT.mono ?_
 rintro e w8 ⟨vp3, vc3, rfl, hb8, hp8, hc8⟩
 simp only [List.flatMap_cons, List.flatMap_nil, List.append_nil, List.nil_append] at hp8 hc8
 have hB8 : Below w6.heap.size w6 w8 := hBa.trans (hb8.mono hBa.size)
 have hs8 : w6.heap.size < w8.heap.size := by have := hb8.size; simp at this; omega
 have hb38 := hid (hb36.out.below hB8)
 have o5 := own_one hp8
 have o6 := own_one hc8
 have b8 : ∀ y, (y ∈ blk vp3 \/ y ∈ blk vc3) -> w6.heap.size < y /\ y < w8.heap.size := fun y hy => by
  rcases hy with hy | hy
  ·have := hp8.lt y (mem_blk.1 hy); simp at this; omega
  ·have := hc8.lt y (mem_blk.1 hy); simp at this; omega
 have hp8 := hid hp8;have hc8 := hid hc8;clear HT hDA
 go_wp2_with (first
  | (refine wS 53 2 rfl w2.heap.size _ #[vp3, vc3] rfl rfl hb38.out rfl rfl (by simp [o5, o6]) ?_; intro w9 hb9 hw9)
  | (refine wL 53 rfl rfl hb9 Tryz.underlying53 ?_)
  | (refine wS 53 2 rfl w.heap.size _ #[vp3, vc3] rfl rfl (((hZ5.out.wrote hw56.out (by simp only [List.mem_singleton]; omega)).below hB8).wrote hw9 (by simp only [List.mem_singleton]; omega)) rfl rfl (by simp [o5, o6]) ?_; intro w10 hb10 hw10))
 refine bodyPost_ret (results_ctt Tryz.results27 rfl (run_loadVar_blk hb10 53 Tryz.underlying53 rfl (by kernel_rfl)) rfl rfl) rfl ?_
 have hgl : 1 < w.heap.size := by have := H.out.ob.tz.lt; omega
 have hX10 := ((D6.out.xb.below hB8).out hw9 (by simpa using f5) (by simp only [List.mem_singleton]; omega)).out hw10 (by simpa using f6) (by simp only [List.mem_singleton]; omega)
 have hst := ((D3.out.from hB1.out).stp.trans D6.out.stp).trans (Stp.below hB8)
 refine ⟨vp3, vc3, L2, rfl, hX10.top, rfl, ⟨(hst.wrote.andNew hw9 (by simp; omega)).andNew hw10 (by simp), hst.sub⟩, ?_, ?_, ?_⟩
 ·exact ownsRow_mono (not_own (not_own hp8.out hw9 (fun b hb hbb => by simp only [List.mem_singleton] at hb; subst hb; have := (b8 _ (.inl hbb)).1; omega)) hw10 (fun b hb hbb => by simp only [List.mem_singleton] at hb; subst hb; have := (b8 _ (.inl hbb)).1; omega)) (by simp; omega)
 ·have := ownsRow_mono (base' := w.heap.size) (not_own (not_own hc8.out hw9 (fun b hb hbb => by simp only [List.mem_singleton] at hb; subst hb; have := (b8 _ (.inr hbb)).1; omega)) hw10 (fun b hb hbb => by simp only [List.mem_singleton] at hb; subst hb; have := (b8 _ (.inr hbb)).1; omega)) (by simp; omega)
  simpa using this
 ·intro b hb hf
  have h1 := D6.out.xb.lt b hf
  have h2 : w6.heap.size < b := by rcases List.mem_append.1 hb with hb | hb; exact (b8 b (.inl hb)).1; exact (b8 b (.inr hb)).1
  omega
end
section
open Go.RowKit Go.Shelf Go.MapKept Go.ChangeMaps
theorem erase_mapD {α β : Type} (f : α -> β) : ∀ (l : List α) (j : Nat), (l.eraseIdx j).map f = (l.map f).eraseIdx j
 | [], _ => rfl
 | _ :: _, 0 => rfl
 | x :: l, j + 1 => by simp [erase_mapD f l j]
theorem del_none {l : WL} {k : List UInt8} (h : look l k = none) : del l k = l := by
 unfold del
 rw [List.filter_eq_self]
 intro p hp
 simpa using look_none.1 h p hp
theorem del_at {l : WL} {k : List UInt8} {j : Nat} {p : List UInt8 × Int} (hn : (l.map Prod.fst).Nodup) (hj : l[j]? = some p) (hp : p.1 = k) : del l k = l.eraseIdx j := by
 induction l generalizing j with
 | nil => simp at hj
 | cons q l ih =>
  simp only [List.map_cons, List.nodup_cons] at hn
  cases j with
  | zero =>
   simp only [List.getElem?_cons_zero, Option.some.injEq] at hj
   subst hj;have : del l k = l := del_none (look_none.2 fun x hx hk => hn.1 (by rw [hp, <- hk]; exact List.mem_map_of_mem (f := Prod.fst) hx))
   simpa [del, hp] using this
  | succ j =>
   rw [List.getElem?_cons_succ] at hj
   have hq : q.1 ≠ k := fun h => hn.1 (by rw [h, <- hp]; exact List.mem_map_of_mem (f := Prod.fst) (List.mem_of_getElem? hj))
   have := ih hn.2 hj
   rw [List.eraseIdx_cons_succ, <- this]
   simp [del, hq]
theorem nodup_del {l : WL} (hn : (l.map Prod.fst).Nodup) (k : List UInt8) : ((del l k).map Prod.fst).Nodup := hn.sublist (List.Sublist.map _ List.filter_sublist)
theorem del_len_le (l : WL) (k : List UInt8) : (del l k).length <= l.length := List.length_filter_le _ _
theorem run_delete_text {P : Program} (t k e : TypeId) (ht : P.underlying t = some (.map k e)) (hk : P.underlying k = some .string) {w : World} {b : Nat} {l : WL} (h : WM w b l) (s : List UInt8) (ty : TypeId) :
  ∃ w', (Builtin.delete_ #[t, k] ty #[.map (some b), .string ⟨s.toArray⟩]).run P w = .ok (.tuple #[]) w' /\ WM w' b (del l s) /\ w.grownBy w' (some b) := by
 obtain ⟨⟨es, clock, hb, he⟩, hn, hs⟩ := h
 have h2 := run_checkKey (w := w) hk (k := wkey s) (by simp [wkey, IsKey]) es.isEmpty 9999
 have hlt : b < w.heap.size := (Array.getElem?_eq_some_iff.1 hb).1
 rcases find_entry he hn s with ⟨hl, hf⟩ | ⟨j, u, hl, hf, e1, hj, hkey⟩
 ·have h1 := run_findKey (w := w) hk hf
  refine ⟨setBlock w b (.map es clock), ?_, ⟨⟨es, clock, by simp [setBlock, hlt], by rw [del_none hl]; exact he⟩, nodup_del hn s, fun es' clock' h' => by
   rw [show (setBlock w b (.map es clock)).heap[b]? = some (.map es clock) by simp [setBlock, hlt]] at h'
   cases h'
   exact hs _ _ hb⟩, World.mapTurned.grown ⟨es, clock, _, _, hb, rfl⟩⟩
  unfold wkey at h1 h2
  simp [Builtin.delete_, run_underlying ht, MapKept.run_getObj_map hb, h2, h1, MapKept.run_setObj_map _ hb, Result.andThen, setBlock]
 ·have h1 := run_findKey (w := w) hk hf
  have hjl : j < es.size := by have := (List.getElem?_eq_some_iff.1 hj).1; simpa using this
  obtain ⟨p, hp, hk3, _⟩ := entries_get he hj
  have hps : p.1 = s := wkey_inj (hk3.symm.trans hkey)
  refine ⟨setBlock w b (.map (es.eraseIdxIfInBounds j) clock), ?_, ⟨⟨es.eraseIdxIfInBounds j, clock, by simp [setBlock, hlt], ?_⟩, nodup_del hn s, fun es' clock' h' => by
   rw [show (setBlock w b (.map (es.eraseIdxIfInBounds j) clock)).heap[b]? = some (.map (es.eraseIdxIfInBounds j) clock) by simp [setBlock, hlt]] at h'
   cases h'
   exact stamped_erase (hs _ _ hb) j⟩, World.mapTurned.grown ⟨es, clock, _, _, hb, rfl⟩⟩
  ·unfold wkey at h1 h2
   simp [Builtin.delete_, run_underlying ht, MapKept.run_getObj_map hb, h2, h1, MapKept.run_setObj_map _ hb, Result.andThen, setBlock]
  ·rw [del_at hn hp hps]
   have : (es.eraseIdxIfInBounds j).toList = es.toList.eraseIdx j := by
    unfold Array.eraseIdxIfInBounds
    rw [dif_pos hjl, Array.toList_eraseIdx]
   rw [this, erase_mapD, he, erase_mapD]
theorem wpList_delete_text {P : Program} {w : World} {ops : Array Oper} {rest : List Oper} {o : Oper} {a : Act} {Q : Exit -> Act -> World -> Prop}
  (hg : o.guard = none) (m x : Operand) (t k : TypeId) (hop : o.op = Op.call { callee := Callee.builtin Builtin.delete, args := #[m, x], argTypes := #[t, k] }) (e : TypeId) (ht : P.underlying t = some (.map k e)) (hk : P.underlying k = some .string) {b : Nat} {l : WL} (h : WM w b l)
  (hm : a.eval m = .map (some b)) (s : List UInt8) (hx : a.eval x = .string ⟨s.toArray⟩)
  (hK : ∀ w', WM w' b (del l s) -> w.grownBy w' (some b) -> wpList P ops Q rest (a.put o.dst (.tuple #[])) w') :
  wpList P ops Q (o :: rest) a w := by
 refine wpList_plain hg fun K' hK' => ?_
 obtain ⟨w', hrun, h1, h2⟩ := run_delete_text t k e ht hk h s o.type
 unfold Oper.wp
 simp [execOp, hop, resolve, invoke, builtin, hm, hx, hrun, Result.andThen]
 exact hK' _ _ (hK _ h1 h2)
end
section
theorem ses_Unwant_bad {w : World} {B : Nat} {S : XLay} {x : XS} (h : XB w B S x) (f : List UInt8) (hf : f.length <= 1000000) (hm : filterR f = false) :
  Calls Tryz.prog 32 #[.pointer (some ⟨S.p, 0, none⟩), .string ⟨f.toArray⟩] w fun e w' => e = .returned (.tuple #[.agg didZ, .bool false, .int .i64 2]) /\ Below w.heap.size w w' := by
 have CN := hid fun o => ses_none (h.alloc o)
 have CF := fun W => topic_Filter f W hf
 rw [hm] at CF
 replace CF := hid CF;have H := hid h;have HB0 := hid ((Below.refl w.heap.size w).alloc (Nat.le_refl _) (.cells didZ 53))
 obtain ⟨ol, hlk0⟩ : ∃ ol, look x.wants f = ol := ⟨_, rfl⟩
 have hlk := hid hlk0;clear h hm hlk0 hf;go_enter Tryz.func32, Tryz.ntmps32
 go_wp2_with (first
  | (go_at_call 60; refine (CN.out _).mono ?_; rintro e w0 ⟨rfl, rfl⟩)
  | (go_at_call 70; refine (CF.out _).mono ?_; rintro e w1 ⟨rfl, hb1⟩; have hB1 := hid (HB0.out.trans (hb1.mono (by simp))); have hx1 := hid (H.out.below hB1.out); have hZ1 := hid ((Blk.new w didZ 53).below hb1); have k6 : w1.cell? ⟨S.p, 6, none⟩ = some (.map (some S.m)) := hx1.out.box.cell 6; have HL := run_lookup_text (P := Tryz.prog) 83 9 3 Tryz.underlying83 Tryz.underlying9 hx1.out.wm (by kernel_rfl) f true; simp only [hlk.out, if_true] at HL)
  | (refine wS 53 2 rfl w.heap.size _ didZ rfl rfl hZ1.out rfl rfl (by simp [didZ,Value.oneCell']) ?_; intro w5 hb5 hw5))
 refine bodyPost_ret (results_ctt Tryz.results32 rfl (run_loadVar_blk hb5 53 Tryz.underlying53 rfl (by kernel_rfl)) rfl rfl) rfl ?_
 exact ⟨rfl, hB1.out.trans (hw5.below hB1.out.size (by simp))⟩
theorem ses_Unwant_none {w : World} {B : Nat} {S : XLay} {x : XS} (h : XB w B S x) (f : List UInt8) (hf : f.length <= 1000000) (hm : filterR f = true) (hlk0 : look x.wants f = none) :
  Calls Tryz.prog 32 #[.pointer (some ⟨S.p, 0, none⟩), .string ⟨f.toArray⟩] w fun e w' => e = .returned (.tuple #[.agg didZ, .bool false, .int .i64 0]) /\ Below w.heap.size w w' := by
 have CN := hid fun o => ses_none (h.alloc o)
 have CF := fun W => topic_Filter f W hf
 rw [hm] at CF
 replace CF := hid CF;have H := hid h;have HB0 := hid ((Below.refl w.heap.size w).alloc (Nat.le_refl _) (.cells didZ 53))
 have hlk := hid hlk0;clear h hm hlk0 hf;go_enter Tryz.func32, Tryz.ntmps32
 go_wp2_with (first
  | (go_at_call 60; refine (CN.out _).mono ?_; rintro e w0 ⟨rfl, rfl⟩)
  | (go_at_call 70; refine (CF.out _).mono ?_; rintro e w1 ⟨rfl, hb1⟩; have hB1 := hid (HB0.out.trans (hb1.mono (by simp))); have hx1 := hid (H.out.below hB1.out); have hZ1 := hid ((Blk.new w didZ 53).below hb1); have k6 : w1.cell? ⟨S.p, 6, none⟩ = some (.map (some S.m)) := hx1.out.box.cell 6; have HL := run_lookup_text (P := Tryz.prog) 83 9 3 Tryz.underlying83 Tryz.underlying9 hx1.out.wm (by kernel_rfl) f true; simp only [hlk.out, if_true] at HL)
  | (refine wS 53 2 rfl w.heap.size _ didZ rfl rfl hZ1.out rfl rfl (by simp [didZ,Value.oneCell']) ?_; intro w5 hb5 hw5))
 refine bodyPost_ret (results_ctt Tryz.results32 rfl (run_loadVar_blk hb5 53 Tryz.underlying53 rfl (by kernel_rfl)) rfl rfl) rfl ?_
 exact ⟨rfl, hB1.out.trans (hw5.below hB1.out.size (by simp))⟩
theorem ses_Unwant_out {w : World} {B : Nat} {S : XLay} {x : XS} (h : XB w B S x) (f : List UInt8) (q : Int) (hf : f.length <= 1000000) (hm : filterR f = true) (hlk0 : look x.wants f = some q) :
  Calls Tryz.prog 32 #[.pointer (some ⟨S.p, 0, none⟩), .string ⟨f.toArray⟩] w fun e w' => ∃ g, e = .returned (.tuple #[.agg #[.slice none 0 0, .slice (some ⟨g, 0, none⟩) 1 1], .bool true, .int .i64 0]) /\
   SDid w w' S S { x with wants := del x.wants f } (.slice none 0 0) (.slice (some ⟨g, 0, none⟩) 1 1) [] [⟨true, x.sub f q⟩] := by
 have CN := hid fun o => ses_none (h.alloc o)
 have CF := fun W => topic_Filter f W hf
 rw [hm] at CF
 replace CF := hid CF;have H := hid h;have HB0 := hid ((Below.refl w.heap.size w).alloc (Nat.le_refl _) (.cells didZ 53))
 have hlk := hid hlk0
 have hil : ((del x.wants f).length : Int) <= x.subs := by
  have h1 := h.ok.wants
  have h2 := del_len_le x.wants f
  omega
 have hil := hid hil;clear h hm hlk0 hf;have hml := H.out.wm.lt
 have hpl := H.out.box.lt
 go_enter Tryz.func32, Tryz.ntmps32
 go_wp2_with (first
   | (go_at_call 60; refine (CN.out _).mono ?_; rintro e w0 ⟨rfl, rfl⟩)
   | (go_at_call 70; refine (CF.out _).mono ?_; rintro e w1 ⟨rfl, hb1⟩; have hB1 := hid (HB0.out.trans (hb1.mono (by simp))); have hx1 := hid (H.out.below hB1.out); have hZ1 := hid ((Blk.new w didZ 53).below hb1); have k6 : w1.cell? ⟨S.p, 6, none⟩ = some (.map (some S.m)) := hx1.out.box.cell 6; have HL := run_lookup_text (P := Tryz.prog) 83 9 3 Tryz.underlying83 Tryz.underlying9 hx1.out.wm (by kernel_rfl) f true; simp only [hlk.out, if_true] at HL)
   | (refine wpList_delete_text rfl _ _ 83 9 rfl 3 Tryz.underlying83 Tryz.underlying9 hx1.out.wm rfl f rfl ?_; intro w6 hwm6 hg6; have hw6 : Hid (Wrote [S.m] w1 w6) := hid (Wrote.of_grown hg6 (fun k hk => by cases hk; simp)); have hx6 := hid (hx1.out.rewant (del x.wants f) hw6.out hwm6 hil.out); have hZ6 := hid (hZ1.out.wrote hw6.out (by simp only [List.mem_singleton]; omega)); have CS := ses_sub hx6.out f q; unfold XS.sub RowV.vals at CS; dsimp only at CS; have CS := hid CS)
   | (go_at_call 65; refine CS.out.mono ?_; rintro e w7 ⟨rfl, hb7⟩; have hx7 := hid (hx6.out.below hb7); have hZ7 := hid (hZ6.out.below hb7))
   | (refine wS 53 2 rfl w.heap.size _ #[.slice none 0 0, .slice (some ⟨w7.heap.size, 0, none⟩) 1 1] rfl rfl (hZ7.out.alloc _) rfl rfl (by simp [Value.oneCell']) ?_; intro w8 hb8 hw8))
 have hs1 : w.heap.size < w1.heap.size := hZ1.out.lt
 have hs6 : w1.heap.size <= w6.heap.size := hw6.out.size
 have hs7 : w6.heap.size <= w7.heap.size := hb7.size
 refine bodyPost_ret (results_ctt Tryz.results32 rfl (run_loadVar_blk hb8 53 Tryz.underlying53 rfl (by kernel_rfl)) rfl rfl) rfl ?_
 have hnf : w.heap.size ∉ S.foot := H.out.foot_lt (Nat.le_refl _)
 have hx8 := (hx7.out.alloc (.cells #[.bool true, .int .i64 2, .string ⟨x.o.client.toArray⟩, .int .i64 0, .int .i64 0, .string ⟨f.toArray⟩, .string ⟨#[]⟩, .int .i64 q, .bool false, .int .i64 0] 115)).out hw8 (by simpa using hnf) (by have := H.out.ob.tz.lt; simp only [List.mem_singleton]; omega)
 have hne8 : w7.heap.size ∉ [w.heap.size] := by simp only [List.mem_singleton]; omega
 have hC8 := (Blk.new w7 #[.bool true, .int .i64 2, .string ⟨x.o.client.toArray⟩, .int .i64 0, .int .i64 0, .string ⟨f.toArray⟩, .string ⟨#[]⟩, .int .i64 q, .bool false, .int .i64 0] 115).wrote hw8 hne8
 refine ⟨w7.heap.size, rfl, ⟨hx8.top, rfl, ⟨?_, fun b hb => .inl hb⟩, World.ownsRow_nil _ _ _ _, ?_, ?_⟩⟩
 ·have hall : Wrote [S.m] w w7 := ((Wrote.of_below hB1.out).trans hw6.out).trans (Wrote.of_below hb7)
  exact ((hall.trans (Wrote.alloc _ _ _)).andNew hw8 (by simp)).sub (by simp [XLay.foot, XLay.own])
 ·exact ⟨by simp [ChangeV.len], .inr ⟨w7.heap.size, 1, _, rfl, by omega, hC8, by simp, by decide, by simp, by simp [ChangeV.cells, RowV.vals, XS.sub]⟩⟩
 ·intro b hb
  simp [blk, Value.ownBlock] at hb
  subst hb;exact H.out.foot_lt (by omega)
end
section
theorem ses_Give_zero {w : World} {B : Nat} {S : XLay} {x : XS} (h : XB w B S x) (topic body : List UInt8) (retain : Bool) (ht : topic.length <= 1000000) (hn : nameR topic = true) (hb : (body.length : Int) <= 2000) (hoff : x.on = false) :
  Calls Tryz.prog 27 #[.pointer (some ⟨S.p, 0, none⟩), .string ⟨topic.toArray⟩, .string ⟨body.toArray⟩, .int .i64 0, .bool retain] w fun e w' => e = .returned (.tuple #[.agg didZ, .bool false, .int .i64 0]) /\ Below w.heap.size w w' := by
 have CN := hid fun o => ses_none (h.alloc o)
 have CT := hid fun W => topic_Name topic W (by omega) (anyOK topic (by omega))
 rw [hn] at CT
 have hsz : ByteArray.size ⟨body.toArray⟩ = body.length := by simp [ByteArray.size]
 have e1 : decide (2000 < (body.length : Int)) = false := decide_eq_false (by omega)
 have H := hid h;have HB0 := hid ((Below.refl w.heap.size w).alloc (Nat.le_refl _) (.cells didZ 53))
 clear h hn hb ht;go_enter Tryz.func27, Tryz.ntmps27
 go_wp2_with (first
  | (go_at_call 60; refine (CN.out _).mono ?_; rintro e w0 ⟨rfl, rfl⟩)
  | (go_at_call 63; refine (CT.out _).mono ?_; rintro e w1 ⟨rfl, hb1⟩; have hB1 := hid (HB0.out.trans (hb1.mono (by simp))); have hx1 := hid (H.out.below hB1.out).top; have hZ1 := hid ((Blk.new w didZ 53).below hb1); have k8 : w1.cell? ⟨S.p, 8, none⟩ = some (.bool x.on) := hx1.out.box.cell 8; rw [hoff] at k8)
  | (refine wS 53 2 rfl w.heap.size _ didZ rfl rfl hZ1.out rfl rfl (by simp [didZ, Value.oneCell']) ?_; intro w4 hb4 hw4))
 refine bodyPost_ret (results_ctt Tryz.results27 rfl (run_loadVar_blk hb4 53 Tryz.underlying53 rfl (by kernel_rfl)) rfl rfl) rfl ?_
 exact ⟨rfl, hB1.out.trans (hw4.below hB1.out.size (by simp))⟩
theorem ses_Anew {w : World} {B : Nat} {S : XLay} {x : XS} (h : XB w B S x) :
  Calls Tryz.prog 28 #[.pointer (some ⟨S.p, 0, none⟩)] w fun e w' => ∃ vp vc L', e = .returned (.tuple #[.agg #[vp, vc], .int .i64 0]) /\
   SDid w w' S { S with o := L' } { x with o := (x.o.again.all.fin x.o.seq x.o.id).s } vp vc (x.o.again.all.fin x.o.seq x.o.id).ps (x.o.again.all.fin x.o.seq x.o.id).cs := by
 have hB := (Below.refl w.heap.size w).alloc (Nat.le_refl _) (.cells didZ 53)
 have hX := hid (h.below hB).top
 have CN := hid (ses_none hX.out)
 have HA := hid (out_Anew hX.out.ob hX.out.nil)
 have k0 : (w.alloc (.cells didZ 53)).cell? ⟨S.p, 0, none⟩ = some (.pointer (some ⟨S.o.p, 0, none⟩)) := hX.out.box.cell 0
 have f1 : w.heap.size ∉ S.foot := h.foot_lt (Nat.le_refl _)
 have hZ := hid (Blk.new w didZ 53)
 have hgl := h.ob.tz.lt
 have hw3 : (x.o.again.all.fin x.o.seq x.o.id).s.window = x.o.window /\ (x.o.again.all.fin x.o.seq x.o.id).s.room = x.o.room := ⟨(sends_same x.o.again _).2.2.1, (sends_same x.o.again _).2.2.2⟩
 obtain ⟨X2, hX2⟩ : ∃ X2, x.o.again.all.fin x.o.seq x.o.id = X2 := ⟨_, rfl⟩
 rw [hX2] at HA hw3 ⊢
 replace hB := hid hB;unfold didZ at *
 go_enter Tryz.func28, Tryz.ntmps28
 go_wp2_with (go_at_call 60; refine CN.out.mono ?_; rintro e w0 ⟨rfl, rfl⟩)
 refine HA.out.mono ?_
 rintro e w2 ⟨vp, vc, L', rfl, d⟩
 have D := hX.out.reout d hw3.1 hw3.2
 have hs2 : w.heap.size + 1 <= w2.heap.size := by have := d.stp.size; simpa using this
 have f2 : w.heap.size ∉ XLay.foot { S with o := L' } := D.stp.not f1 (by simp)
 have hZ2 := hid (hZ.out.wrote D.stp.wrote f1)
 have o1 := own_one D.packs
 have o2 := own_one D.chgs
 have b1 : ∀ y, (y ∈ blk vp \/ y ∈ blk vc) -> w.heap.size + 1 <= y := fun y hy => by
  rcases hy with hy | hy
  ·have := (D.packs.lt y (mem_blk.1 hy)).1; simpa using this
  ·have := (D.chgs.lt y (mem_blk.1 hy)).1; simpa using this
 replace D := hid D;clear d;go_wp2_with (refine wS 53 2 rfl w.heap.size _ #[vp, vc] rfl rfl hZ2.out rfl rfl (by simp [o1, o2]) ?_; intro w4 hb4 hw4)
 refine bodyPost_ret (results_ct1 Tryz.results28 rfl (run_loadVar_blk hb4 53 Tryz.underlying53 rfl (by kernel_rfl)) rfl) rfl ?_
 exact ⟨vp, vc, L', rfl, (D.out.from hB.out).step hw4 (by intro y hy; simp only [List.mem_singleton] at hy; subst hy; exact ⟨f2, fun hh => by have := b1 _ (.inl hh); omega, fun hh => by have := b1 _ (.inr hh); omega⟩) (by simp only [List.mem_singleton]; omega) (by simp)⟩
end
section
open Go.RowKit
theorem bits_low (y : Nat) (h0 : y ≠ 0) (h : y < 2 ^ 64) :
  Lib.ctz 64 y < 64 /\ y.testBit (Lib.ctz 64 y) = true /\ (∀ j, j < Lib.ctz 64 y -> y.testBit j = false) /\ ∀ j, (y &&& (y - 1)).testBit j = (y.testBit j && decide (j ≠ Lib.ctz 64 y)) := by
 obtain ⟨m, hm, hk⟩ := Lib.ctzFrom_spec 64 y (by omega) h
 have e : Lib.ctz 64 y = Lib.ctzFrom 64 y := by simp [Lib.ctz, h0]
 rw [e]
 generalize Lib.ctzFrom 64 y = k at hm hk
 have hx : y = 2 ^ k * (2 * m + 1) + 0 := by omega
 have hp : 0 < 2 ^ k := Nat.pow_pos (by decide)
 have hx1 : y - 1 = 2 ^ k * (2 * m) + (2 ^ k - 1) := by rw [hm, Nat.mul_add, Nat.mul_one]; omega
 have hb : ∀ j, y.testBit j = if j < k then false else (2 * m + 1).testBit (j - k) := fun j => by
  rw [hx, Nat.testBit_two_pow_mul_add _ hp]; simp
 have hb1 : ∀ j, (y - 1).testBit j = if j < k then (2 ^ k - 1).testBit j else (2 * m).testBit (j - k) := fun j => by
  rw [hx1, Nat.testBit_two_pow_mul_add _ (by omega)]
 refine ⟨hk, by rw [hb]; simp [Nat.testBit_zero], fun j hj => by rw [hb, if_pos hj], fun j => ?_⟩
 rw [Nat.testBit_and, hb, hb1]
 by_cases hj : j < k
 ·simp [hj]
 ·rw [if_neg hj, if_neg hj]
  by_cases he : j = k
  ·subst he; simp [Nat.testBit_zero]
  ·obtain ⟨i, hi⟩ : ∃ i, j - k = i + 1 := ⟨j - k - 1, by omega⟩
   rw [hi, Nat.testBit_succ, Nat.testBit_succ]
   have d1 : (2 * m + 1) / 2 = m := by omega
   have d2 : 2 * m / 2 = m := by omega
   rw [d1, d2]
   simp [he]
def bitAt (W : Nat -> Nat) (n : Nat) : Bool := (W (n / 64)).testBit (n % 64)
def bitsTo (T : Nat) (W : Nat -> Nat) : List Nat := (List.range T).filter (bitAt W)
theorem bitsTo_skip (W : Nat -> Nat) (T : Nat) : ∀ d, (∀ n, T <= n -> n < T + d -> bitAt W n = false) -> bitsTo (T + d) W = bitsTo T W
 | 0, _ => rfl
 | d + 1, h => by
  have ih := bitsTo_skip W T d (fun n h1 h2 => h n h1 (by omega))
  unfold bitsTo at ih ⊢
  rw [<- Nat.add_assoc, List.range_succ, List.filter_append, ih, List.filter_cons_of_neg (by rw [h (T + d) (by omega) (by omega)]; simp)]
  simp
theorem bitsTo_take (W : Nat -> Nat) (T : Nat) (h : bitAt W T = true) : bitsTo (T + 1) W = bitsTo T W ++ [T] := by
 unfold bitsTo
 rw [List.range_succ, List.filter_append]
 simp [h]
theorem bitAt_word (W : Nat -> Nat) (k j : Nat) (hj : j < 64) : bitAt W (64 * k + j) = (W k).testBit j := by
 unfold bitAt
 rw [show (64 * k + j) / 64 = k from by omega, show (64 * k + j) % 64 = j from by omega]
theorem bitsTo_len (W : Nat -> Nat) (T : Nat) : (bitsTo T W).length <= T := by
 unfold bitsTo
 have := List.length_filter_le (bitAt W) (List.range T)
 simpa using this
def sortI (ids : List Nat) : List Nat := (List.range 65536).filter fun n => decide (n ∈ ids)
theorem bitsTo_sortI {W : Nat -> Nat} {ids : List Nat} (h : SetIs W ids) : bitsTo 65536 W = sortI ids := by
 unfold bitsTo sortI
 refine List.filter_congr fun n hn => ?_
 exact h.has n (List.mem_range.1 hn)
theorem mem_sortI {ids : List Nat} {n : Nat} : n ∈ sortI ids ↔ n < 65536 /\ n ∈ ids := by unfold sortI; simp
theorem sortI_pair (ids : List Nat) : (sortI ids).Pairwise (· < ·) := List.Pairwise.filter _ List.pairwise_lt_range
theorem sortI_nodup (ids : List Nat) : (sortI ids).Nodup := (sortI_pair ids).imp (fun h => Nat.ne_of_lt h)
theorem sortI_perm {ids : List Nat} (hn : ids.Nodup) (hl : ∀ i ∈ ids, i < 65536) : (sortI ids).Perm ids :=
 (List.perm_ext_iff_of_nodup (sortI_nodup ids) hn).2 fun a => by rw [mem_sortI]; exact ⟨fun h => h.2, fun h => ⟨hl a h, h⟩⟩
theorem sortI_ext {a b : List Nat} (h : ∀ n, n ∈ a ↔ n ∈ b) : sortI a = sortI b := by
 unfold sortI
 refine List.filter_congr fun n _ => ?_
 rw [decide_eq_decide]
 exact h n
end
end Go.Proofs.YtoinabapaeebfaaGreatDoor
