/- Parts of the proof of SessionRows: contracts of functions that it reaches, and plain lemmas. No condition of their own. -/
import Derived.Test.YtoinabapaeebfaaGreatDoorPk28
import Derived.Test.YtoinabapaeebfaaGreatDoorPk17
set_option linter.unusedSimpArgs false
set_option linter.unusedVariables false
set_option maxRecDepth 100000
set_option maxHeartbeats 8000000
namespace Go.Proofs.YtoinabapaeebfaaGreatDoor
open Go.RowKit Go.Shelf
section
def pcomp (z : Int) : PackV := ⟨7, false, false, 0, [], [], z⟩
theorem ses_pubrel_bad {w : World} {B : Nat} {S : XLay} {x : XS} (h : XB w B S x) (z : Int) (hz : ¬ (1 <= z /\ z <= 65535)) :
  Calls Tryz.prog 134 #[.pointer (some ⟨S.p, 0, none⟩), .int .i64 z] w fun e w' => e = .returned (.tuple #[.agg didZ, .int .i64 2]) /\ Below w.heap.size w w' := by
 have H := hid h;have HB0 := hid ((Below.refl w.heap.size w).alloc (Nat.le_refl _) (.cells didZ 53))
 have hZ0 := hid (Blk.new w didZ 53)
 have hX0 := hid (h.below HB0.out).top
 have k5 : (w.alloc (.cells didZ 53)).cell? ⟨S.p, 5, none⟩ = some (.pointer (some ⟨S.ib, 0, none⟩)) := hX0.out.box.cell 5
 have f1 : w.heap.size ∉ S.foot := h.foot_lt (Nat.le_refl _)
 have hgl := h.ob.tz.lt
 have CI := hid (in_Go_bad S.ib S.sb x.most S.W z _ hX0.out.inb hz)
 unfold didZ at *
 go_enter Tryz.func134, Tryz.ntmps134
 go_wp2_with (first
  | (go_at_call 193; refine CI.out.mono ?_; rintro e w1 ⟨rfl, hw1⟩; subst hw1)
  | (refine wS 53 2 rfl w.heap.size _ #[.slice none 0 0, .slice none 0 0] rfl rfl hZ0.out rfl rfl (by simp [Value.oneCell']) ?_; intro w5 hb5 hw5))
 refine bodyPost_ret (results_ct1 Tryz.results134 rfl (run_loadVar_blk hb5 53 Tryz.underlying53 rfl (by kernel_rfl)) rfl) rfl ?_
 exact ⟨rfl, HB0.out.trans (hw5.below HB0.out.size (by simp))⟩
theorem ses_pubrel_not {w : World} {B : Nat} {S : XLay} {x : XS} (h : XB w B S x) (z : Int) (hz : 1 <= z /\ z <= 65535) (hnot : z.toNat ∉ x.ids) :
  Calls Tryz.prog 134 #[.pointer (some ⟨S.p, 0, none⟩), .int .i64 z] w fun e w' => ∃ g, e = .returned (.tuple #[.agg #[.slice (some ⟨g, 0, none⟩) 1 1, .slice none 0 0], .int .i64 0]) /\
   SDid w w' S S x (.slice (some ⟨g, 0, none⟩) 1 1) (.slice none 0 0) [pcomp z] [] := by
 have H := hid h;have HB0 := hid ((Below.refl w.heap.size w).alloc (Nat.le_refl _) (.cells didZ 53))
 have hZ0 := hid (Blk.new w didZ 53)
 have hX0 := hid (h.below HB0.out).top
 have k5 : (w.alloc (.cells didZ 53)).cell? ⟨S.p, 5, none⟩ = some (.pointer (some ⟨S.ib, 0, none⟩)) := hX0.out.box.cell 5
 have f1 : w.heap.size ∉ S.foot := h.foot_lt (Nat.le_refl _)
 have hgl := h.ob.tz.lt
 have CI := hid (in_Go_not S.ib S.sb x.most S.W x.ids z _ hX0.out.inb hX0.out.set hz.1 hz.2 hnot)
 unfold didZ at *
 go_enter Tryz.func134, Tryz.ntmps134
 go_wp2_with (first
  | (go_at_call 193; refine CI.out.mono ?_; rintro e w1 ⟨rfl, hb1⟩; have hZ1 := hid (hZ0.out.below hb1); have hX1 := hid (hX0.out.below hb1))
  | (refine wS 53 2 rfl (w1.heap.size + 1) _ #[.slice (some ⟨w1.heap.size, 0, none⟩) 1 1, .slice none 0 0] rfl rfl (Blk.new_at _ _ _ _ (by simp)) rfl rfl (by simp [Value.oneCell']) ?_; intro w2 hb2 hw2)
  | (refine wL 53 rfl rfl hb2 Tryz.underlying53 ?_)
  | (refine wS 53 2 rfl w.heap.size _ #[.slice (some ⟨w1.heap.size, 0, none⟩) 1 1, .slice none 0 0] rfl rfl (((hZ1.out.alloc _).alloc _).wrote hw2 (by have := hZ1.out.lt; simp only [List.mem_singleton]; omega)) rfl rfl (by simp [Value.oneCell']) ?_; intro w5 hb5 hw5))
 refine bodyPost_ret (results_ct1 Tryz.results134 rfl (run_loadVar_blk hb5 53 Tryz.underlying53 rfl (by kernel_rfl)) rfl) rfl ?_
 have hs1 : w.heap.size < w1.heap.size := hZ1.out.lt
 have hP1 := hid (Blk.new w1 (pcomp z).cells.toArray 81)
 have hP2 := hid (((hP1.out.alloc (.cells #[.slice none 0 0, .slice none 0 0] 53)).wrote hw2 (by simp)).wrote hw5 (by simp only [List.mem_singleton]; omega))
 have hx5 := ((((hX1.out.alloc (.cells (pcomp z).cells.toArray 81)).alloc (.cells #[.slice none 0 0, .slice none 0 0] 53)).out hw2 (by simpa using hX1.out.foot_lt (by omega)) (by simp only [List.mem_singleton]; omega)).out hw5 (by simpa using H.out.foot_lt (Nat.le_refl _)) (by simp only [List.mem_singleton]; omega))
 refine ⟨w1.heap.size, rfl, ⟨hx5.top, rfl, ⟨?_, fun b hb => .inl hb⟩, ?_, World.ownsRow_nil _ _ _ _, ?_⟩⟩
 ·have hall : Wrote S.foot w w1 := (Wrote.of_below HB0.out).trans (Wrote.of_below hb1)
  exact (((hall.trans (Wrote.alloc _ _ _)).trans (Wrote.alloc _ _ _)).andNew hw2 (by simp; omega)).andNew hw5 (by simp)
 ·exact ⟨by simp [PackV.cells], .inr ⟨w1.heap.size, 1, _, rfl, by omega, hP2.out, by simp, by decide, by simp [PackV.cells], by simp [PackV.cells, pcomp]⟩⟩
 ·intro b hb
  simp [blk, Value.ownBlock] at hb
  subst hb;exact H.out.foot_lt (by omega)
theorem SetIs.gone {W : Nat -> Nat} {ids : List Nat} (h : SetIs W ids) {z : Int} (hz : 1 <= z /\ z <= 65535) (hin : z.toNat ∈ ids) (hd : ids.Nodup) : SetIs (tog W z.toNat) (ids.erase z.toNat) := h.go (by omega) hin hd
theorem ses_pubrel_out {w : World} {B : Nat} {S : XLay} {x : XS} (h : XB w B S x) (z : Int) (hz : 1 <= z /\ z <= 65535) (hin : z.toNat ∈ x.ids) (hd : x.ids.Nodup) :
  Calls Tryz.prog 134 #[.pointer (some ⟨S.p, 0, none⟩), .int .i64 z] w fun e w' => ∃ g1 g2 S', e = .returned (.tuple #[.agg #[.slice (some ⟨g1, 0, none⟩) 1 1, .slice (some ⟨g2, 0, none⟩) 1 1], .int .i64 0]) /\
   SDid w w' S S' { x with ids := x.ids.erase z.toNat } (.slice (some ⟨g1, 0, none⟩) 1 1) (.slice (some ⟨g2, 0, none⟩) 1 1) [pcomp z] [⟨true, x.inr z⟩] := by
 have H := hid h;have HB0 := hid ((Below.refl w.heap.size w).alloc (Nat.le_refl _) (.cells didZ 53))
 have hZ0 := hid (Blk.new w didZ 53)
 have hX0 := hid (h.below HB0.out).top
 have k5 : (w.alloc (.cells didZ 53)).cell? ⟨S.p, 5, none⟩ = some (.pointer (some ⟨S.ib, 0, none⟩)) := hX0.out.box.cell 5
 have f1 : w.heap.size ∉ S.foot := h.foot_lt (Nat.le_refl _)
 have hgl := h.ob.tz.lt
 have CI := hid (in_Go S.ib S.sb x.most S.W x.ids z _ hX0.out.inb hX0.out.set hz.1 hz.2 hin)
 have hset := h.set.gone hz hin hd
 have CR : Hid (∀ W, Inb W S.ib S.sb x.most (tog S.W z.toNat) -> Wrote [S.sb] (w.alloc (.cells didZ 53)) W -> XB W w.heap.size { S with W := tog S.W z.toNat } { x with ids := x.ids.erase z.toNat }) := hid fun W hI hw => (h.top.below HB0.out).reids _ _ hw hI hset (fun i hi => h.ok.ids i (List.mem_of_mem_erase hi)) (by have h1 := List.length_erase_le (a := z.toNat) (l := x.ids); have h2 := h.ok.under; omega)
 have hsl : S.sb < w.heap.size := h.inb.set.lt
 have hfs := hid (show S.sb ∈ S.foot by simp [XLay.foot, XLay.own])
 clear hset hin hd;unfold didZ at *
 go_enter Tryz.func134, Tryz.ntmps134
 go_wp2_with (first
  | (go_at_call 193; refine CI.out.mono ?_; rintro e w1 ⟨rfl, hI1, hw1⟩; have hX1 := hid (CR.out w1 hI1 hw1); have hZ1 := hid (hZ0.out.wrote hw1 (by simp only [List.mem_singleton]; omega)); have hW1 := hid hw1; clear hI1 hw1)
  | (refine wS 53 2 rfl (w1.heap.size + 1) _ #[.slice (some ⟨w1.heap.size, 0, none⟩) 1 1, .slice none 0 0] rfl rfl (Blk.new_at _ _ _ _ (by simp)) rfl rfl (by simp [Value.oneCell']) ?_; intro w2 hb2 hw2; have hX2 := hid (((hX1.out.alloc (.cells (pcomp z).cells.toArray 81)).alloc (.cells #[.slice none 0 0, .slice none 0 0] 53)).out hw2 (by simpa using hX1.out.foot_lt (by omega)) (by have := hZ1.out.lt; simp only [List.mem_singleton]; omega)); have CS := ses_in hX2.out z; unfold XS.inr RowV.vals at CS; dsimp only at CS; have CS := hid CS)
  | (go_at_call 72; refine CS.out.mono ?_; rintro e w3 ⟨rfl, hb3⟩)
  | (refine wpList_store_cell rfl 36 53 _ _ rfl (fun w => by kernel_rfl) (w1.heap.size + 1) 1 #[.slice (some ⟨w1.heap.size, 0, none⟩) 1 1, .slice none 0 0] (.slice (some ⟨w3.heap.size, 0, none⟩) 1 1) rfl rfl ((hb2.below hb3).alloc _) (by simp) rfl rfl ?_; intro w4 hb4 hw4)
  | (refine wL 53 rfl rfl hb4 Tryz.underlying53 ?_)
  | (refine wS 53 2 rfl w.heap.size _ #[.slice (some ⟨w1.heap.size, 0, none⟩) 1 1, .slice (some ⟨w3.heap.size, 0, none⟩) 1 1] rfl rfl (((((hZ1.out.alloc _).alloc _).wrote hw2 (by have := hZ1.out.lt; simp only [List.mem_singleton]; omega)).below hb3).alloc _ |>.wrote hw4 (by have := hZ1.out.lt; simp only [List.mem_singleton]; omega)) rfl rfl (by simp [Value.oneCell']) ?_; intro w5 hb5 hw5))
 refine bodyPost_ret (results_ct1 Tryz.results134 rfl (run_loadVar_blk hb5 53 Tryz.underlying53 rfl (by kernel_rfl)) rfl) rfl ?_
 have hs1 : w.heap.size < w1.heap.size := hZ1.out.lt
 have hs2 : w1.heap.size + 1 < w2.heap.size := hb2.lt
 have hs3 : w2.heap.size <= w3.heap.size := hb3.size
 have hP1 := hid (Blk.new w1 (pcomp z).cells.toArray 81)
 have hP2 := hid ((((((hP1.out.alloc (.cells #[.slice none 0 0, .slice none 0 0] 53)).wrote hw2 (by simp)).below hb3).alloc (.cells #[.bool true, .int .i64 4, .string ⟨x.o.client.toArray⟩, .int .i64 0, .int .i64 z, .string ⟨#[]⟩, .string ⟨#[]⟩, .int .i64 0, .bool false, .int .i64 0] 115)).wrote hw4 (by simp)).wrote hw5 (by simp only [List.mem_singleton]; omega))
 have hC2 := hid (((Blk.new w3 #[.bool true, .int .i64 4, .string ⟨x.o.client.toArray⟩, .int .i64 0, .int .i64 z, .string ⟨#[]⟩, .string ⟨#[]⟩, .int .i64 0, .bool false, .int .i64 0] 115).wrote hw4 (by simp only [List.mem_singleton]; omega)).wrote hw5 (by simp only [List.mem_singleton]; omega))
 have hnf : ∀ n, w.heap.size <= n -> n ∉ XLay.foot { S with W := tog S.W z.toNat } := fun n hn => H.out.foot_lt hn
 have hx5 := ((((hX2.out.below hb3).alloc (.cells #[.bool true, .int .i64 4, .string ⟨x.o.client.toArray⟩, .int .i64 0, .int .i64 z, .string ⟨#[]⟩, .string ⟨#[]⟩, .int .i64 0, .bool false, .int .i64 0] 115)).out hw4 (by simpa using hnf _ (by omega)) (by simp only [List.mem_singleton]; omega)).out hw5 (by simpa using hnf _ (Nat.le_refl _)) (by simp only [List.mem_singleton]; omega))
 refine ⟨w1.heap.size, w3.heap.size, { S with W := tog S.W z.toNat }, rfl, ⟨hx5.top, rfl, ⟨?_, fun b hb => .inl hb⟩, ?_, ?_, ?_⟩⟩
 ·have hall : Wrote S.foot w w1 := ((Wrote.alloc _ _ _).trans hW1.out).sub (by simpa using hfs.out)
  exact ((((((hall.trans (Wrote.alloc _ _ _)).trans (Wrote.alloc _ _ _)).andNew hw2 (by simp; omega)).trans (Wrote.of_below hb3)).trans (Wrote.alloc _ _ _)).andNew hw4 (by simp; omega)).andNew hw5 (by simp)
 ·exact ⟨by simp [PackV.cells], .inr ⟨w1.heap.size, 1, _, rfl, by omega, hP2.out, by simp, by decide, by simp [PackV.cells], by simp [PackV.cells, pcomp]⟩⟩
 ·exact ⟨by simp [ChangeV.len], .inr ⟨w3.heap.size, 1, _, rfl, by omega, hC2.out, by simp, by decide, by simp, by simp [ChangeV.cells, RowV.vals, XS.inr]⟩⟩
 ·intro b hb
  simp [blk, Value.ownBlock] at hb
  rcases hb with rfl | rfl
  ·exact H.out.foot_lt (by omega)
  ·exact H.out.foot_lt (by omega)
theorem ses_pubrel_any {w : World} {B : Nat} {S : XLay} {x : XS} (h : XB w B S x) (hd : x.ids.Nodup) (z : Int) :
  Calls Tryz.prog 134 #[.pointer (some ⟨S.p, 0, none⟩), .int .i64 z] w fun e w' => ∃ vp vc no, e = .returned (.tuple #[.agg #[vp, vc], .int .i64 no]) /\ ToldX w w' S (x.rel z) vp vc := by
 unfold XS.rel
 by_cases hz : 1 <= z /\ z <= 65535
 ·rw [if_pos hz]
  by_cases hin : z.toNat ∈ x.ids
  ·rw [if_pos hin]
   refine (ses_pubrel_out h z hz hin hd).mono ?_
   rintro e w' ⟨g1, g2, S', rfl, d⟩
   exact ⟨_, _, 0, rfl, S', d⟩
  ·rw [if_neg hin]
   refine (ses_pubrel_not h z hz hin).mono ?_
   rintro e w' ⟨g1, rfl, d⟩
   exact ⟨_, _, 0, rfl, S, d⟩
 ·rw [if_neg hz]
  refine (ses_pubrel_bad h z hz).mono ?_
  rintro e w' ⟨rfl, hb⟩
  exact ⟨_, _, 2, rfl, S, sdid_none h hb⟩
end
section
theorem sfunc_not_nil (f : Nat) (W : World) : (binOp .neq 220 (.func (.func f) #[] #[]) .nilFunc).run Tryz.prog W = .ok (.bool true) W := by
 have h : (Op.equal 220 (.func (.func f) #[] #[]) .nilFunc).run Tryz.prog W = .ok false W := by
  unfold Op.equal
  rw [show Op.maxDepth = (Op.maxDepth - 1) + 1 from rfl]
  unfold Op.equalIn
  simp [run_underlying Tryz.underlying220]
 simp [binOp, h]
theorem snil_nil (W : World) : (binOp .neq 220 .nilFunc .nilFunc).run Tryz.prog W = .ok (.bool false) W := by
 have h : (Op.equal 220 .nilFunc .nilFunc).run Tryz.prog W = .ok true W := by
  unfold Op.equal
  rw [show Op.maxDepth = (Op.maxDepth - 1) + 1 from rfl]
  unfold Op.equalIn
  simp [run_underlying Tryz.underlying220]
 simp [binOp, h]
theorem key1 {x : MapEntry} {a : Int} {va : Value} {k : Int} {n1 : Nat} (hx : x ∈ [(⟨.int .i64 a, va, n1⟩ : MapEntry)]) (h1 : k ≠ a) : ∃ d, x.key = .int .i64 d /\ d ≠ k := by
 simp only [List.mem_cons, List.not_mem_nil, or_false] at hx
 subst hx;exact ⟨a, rfl, Ne.symm h1⟩
theorem ses_Hear6 {w : World} {B : Nat} {S : XLay} {x : XS} (h : XB w B S x) (hd : x.ids.Nodup) (z : Int) :
  Calls Tryz.prog 78 #[.pointer (some ⟨S.p, 0, none⟩), .int .i64 6, .int .i64 z] w fun e w' => ∃ vp vc no, e = .returned (.tuple #[.agg #[vp, vc], .int .i64 no]) /\ ToldX w w' S (x.rel z) vp vc := by
 have hmm := @run_makeMap Tryz.prog
 have hb0 : ((w.alloc (.cells #[.slice none 0 0, .slice none 0 0] 53)).alloc (.map #[] 0)).heap[w.heap.size + 1]? = some (.map #[] 0) := by simpa using World.alloc_heap_new (w.alloc (.cells #[.slice none 0 0, .slice none 0 0] 53)) (.map #[] 0)
 have B0 : Below w.heap.size w ((w.alloc (.cells #[.slice none 0 0, .slice none 0 0] 53)).alloc (.map #[] 0)) := ((Below.refl _ w).alloc (Nat.le_refl _) _).alloc (by simp) _
 have D0 := (Blk.new w #[.slice none 0 0, .slice none 0 0] 53).alloc (.map #[] 0)
 have CN := hid fun o => ses_none (h.alloc o)
 have H := hid h;have f1 : w.heap.size ∉ S.foot := h.foot_lt (Nat.le_refl _)
 have hgl := h.ob.tz.lt
 have CP := hid fun (W : World) (hX : XB W W.heap.size S x) => ses_pubrel_any hX hd z
 have hnil := sfunc_not_nil 134
 clear h hd;go_enter Tryz.func78, Tryz.ntmps78
 go_wp2_with (first
  | (go_at_call 60; refine (CN.out _).mono ?_; rintro e w0 ⟨rfl, rfl⟩)
  | (refine wpList_insert_new _ rfl _ _ _ 222 rfl 41 220 .i64 Tryz.underlying222 Tryz.underlying41 _ _ _ rfl (by with_reducible assumption) _ _ rfl rfl (by simp) ?_
     intro w1 hb1 hg1
     have B1 := hid (B0.grown hg1 B0.size (fun k hk => by cases hk; omega))
     have D1 := hid (D0.keep (hg1.block _ (by simp; omega) (by simp)))
     have HL := run_lookup_at (P := Tryz.prog) 222 41 220 .i64 Tryz.underlying222 Tryz.underlying41 _ _ _ _ hb1 6 _ 0 rfl false
     clear hg1;have hX1 := hid (H.out.below B1.out).top
     have k0 : w1.cell? ⟨S.p, 0, none⟩ = some (.pointer (some ⟨S.o.p, 0, none⟩)) := hX1.out.box.cell 0))
 refine (CP.out _ hX1.out).mono ?_
 rintro e w2 ⟨vp, vc, no, rfl, S', D⟩
 have hs0 : w.heap.size < w1.heap.size := D1.out.lt
 have f2 : w.heap.size ∉ S'.foot := D.stp.not f1 hs0
 have hZ2 := hid (D1.out.wrote D.stp.wrote f1)
 have o1 := own_one D.packs
 have o2 := own_one D.chgs
 have b1 : ∀ y, (y ∈ blk vp \/ y ∈ blk vc) -> w1.heap.size <= y := fun y hy => by
  rcases hy with hy | hy
  ·exact (D.packs.lt y (mem_blk.1 hy)).1
  ·exact (D.chgs.lt y (mem_blk.1 hy)).1
 replace D := hid D;go_wp2_with (refine wS 53 2 rfl w.heap.size _ #[vp, vc] rfl rfl hZ2.out rfl rfl (by simp [o1, o2]) ?_; intro w4 hb4 hw4)
 refine bodyPost_ret (results_ct1 Tryz.results78 rfl (run_loadVar_blk hb4 53 Tryz.underlying53 rfl (by kernel_rfl)) rfl) rfl ?_
 exact ⟨vp, vc, no, rfl, S', (D.out.from B1.out).step hw4 (by intro y hy; simp only [List.mem_singleton] at hy; subst hy; exact ⟨f2, fun hh => by have := b1 _ (.inl hh); omega, fun hh => by have := b1 _ (.inr hh); omega⟩) (by simp only [List.mem_singleton]; omega) (by simp)⟩
theorem doHear_same (s : OS) (k z : Int) : (s.doHear k z).s.window = s.window /\ (s.doHear k z).s.room = s.room /\ (s.doHear k z).s.client = s.client := by
 have a : ∀ X : SS, X.s.window = s.window /\ X.s.room = s.room /\ X.s.client = s.client -> (X.all.fin s.seq s.id).s.window = s.window /\ (X.all.fin s.seq s.id).s.room = s.room /\ (X.all.fin s.seq s.id).s.client = s.client := fun X hX =>
  ⟨(sends_same X _).2.2.1.trans hX.1, (sends_same X _).2.2.2.trans hX.2.1, (all_same X).1.trans hX.2.2⟩
 have g : ∀ n st q, (s.start.goneAt n st q).s.window = s.window /\ (s.start.goneAt n st q).s.room = s.room /\ (s.start.goneAt n st q).s.client = s.client := fun n st q => by
  unfold SS.goneAt SS.goneIf SS.gone
  repeat' split
  all_goals exact ⟨rfl, rfl, rfl⟩
 have p : ∀ n z, (s.start.pubrec n z).s.window = s.window /\ (s.start.pubrec n z).s.room = s.room /\ (s.start.pubrec n z).s.client = s.client := fun n z => by
  unfold SS.pubrec SS.recv
  repeat' split
  all_goals exact ⟨rfl, rfl, rfl⟩
 unfold OS.doHear
 split
 ·split
  ·exact a _ (g _ _ _)
  ·split
   ·exact a _ (p _ _)
   ·split
    ·exact a _ (g _ _ _)
    ·exact ⟨rfl, rfl, rfl⟩
 ·exact ⟨rfl, rfl, rfl⟩
theorem ses_HearN {w : World} {B : Nat} {S : XLay} {x : XS} (h : XB w B S x) (k z : Int) (hk : k ≠ 6) :
  Calls Tryz.prog 78 #[.pointer (some ⟨S.p, 0, none⟩), .int .i64 k, .int .i64 z] w fun e w' => ∃ vp vc no, e = .returned (.tuple #[.agg #[vp, vc], .int .i64 no]) /\ ToldX w w' S ⟨{ x with o := (x.o.doHear k z).s }, (x.o.doHear k z).ps, (x.o.doHear k z).cs⟩ vp vc := by
 have hmm := @run_makeMap Tryz.prog
 have hb0 : ((w.alloc (.cells #[.slice none 0 0, .slice none 0 0] 53)).alloc (.map #[] 0)).heap[w.heap.size + 1]? = some (.map #[] 0) := by simpa using World.alloc_heap_new (w.alloc (.cells #[.slice none 0 0, .slice none 0 0] 53)) (.map #[] 0)
 have B0 : Below w.heap.size w ((w.alloc (.cells #[.slice none 0 0, .slice none 0 0] 53)).alloc (.map #[] 0)) := ((Below.refl _ w).alloc (Nat.le_refl _) _).alloc (by simp) _
 have D0 := (Blk.new w #[.slice none 0 0, .slice none 0 0] 53).alloc (.map #[] 0)
 have CN := hid fun o => ses_none (h.alloc o)
 have H := hid h;have f1 : w.heap.size ∉ S.foot := h.foot_lt (Nat.le_refl _)
 have hgl := h.ob.tz.lt
 have CP := hid fun (W : World) (hX : XB W W.heap.size S x) => act_Hear hX.ob hX.nil k z
 have hsame := doHear_same x.o k z
 have hnil := snil_nil
 obtain ⟨X2, hX2⟩ : ∃ X2, x.o.doHear k z = X2 := ⟨_, rfl⟩
 rw [hX2] at CP hsame ⊢
 clear h;go_enter Tryz.func78, Tryz.ntmps78
 go_wp2_with (first
  | (go_at_call 60; refine (CN.out _).mono ?_; rintro e w0 ⟨rfl, rfl⟩)
  | (refine wpList_insert_new _ rfl _ _ _ 222 rfl 41 220 .i64 Tryz.underlying222 Tryz.underlying41 _ _ _ rfl (by with_reducible assumption) _ _ rfl rfl (by simp) ?_
     intro w1 hb1 hg1
     have B1 := hid (B0.grown hg1 B0.size (fun k hk => by cases hk; omega))
     have D1 := hid (D0.keep (hg1.block _ (by simp; omega) (by simp)))
     have HL := run_lookup_not (P := Tryz.prog) 222 41 220 .i64 Tryz.underlying222 Tryz.underlying41 _ _ _ _ .nilFunc (by kernel_rfl) hb1 k (fun x hx => key1 hx hk) false
     clear hg1;have hX1 := hid (H.out.below B1.out).top
     have k0 : w1.cell? ⟨S.p, 0, none⟩ = some (.pointer (some ⟨S.o.p, 0, none⟩)) := hX1.out.box.cell 0))
 refine (CP.out _ hX1.out).mono ?_
 rintro e w2 ⟨vp, vc, no, L', rfl, d⟩
 have D := hX1.out.reout d hsame.1 hsame.2.1
 obtain ⟨S', hS'⟩ : ∃ S' : XLay, { S with o := L' } = S' := ⟨_, rfl⟩
 rw [hS'] at D
 clear d;have hs0 : w.heap.size < w1.heap.size := D1.out.lt
 have f2 : w.heap.size ∉ S'.foot := D.stp.not f1 hs0
 have hZ2 := hid (D1.out.wrote D.stp.wrote f1)
 have o1 := own_one D.packs
 have o2 := own_one D.chgs
 have b1 : ∀ y, (y ∈ blk vp \/ y ∈ blk vc) -> w1.heap.size <= y := fun y hy => by
  rcases hy with hy | hy
  ·exact (D.packs.lt y (mem_blk.1 hy)).1
  ·exact (D.chgs.lt y (mem_blk.1 hy)).1
 replace D := hid D;go_wp2_with (refine wS 53 2 rfl w.heap.size _ #[vp, vc] rfl rfl hZ2.out rfl rfl (by simp [o1, o2]) ?_; intro w4 hb4 hw4)
 refine bodyPost_ret (results_ct1 Tryz.results78 rfl (run_loadVar_blk hb4 53 Tryz.underlying53 rfl (by kernel_rfl)) rfl) rfl ?_
 exact ⟨vp, vc, no, rfl, S', (D.out.from B1.out).step hw4 (by intro y hy; simp only [List.mem_singleton] at hy; subst hy; exact ⟨f2, fun hh => by have := b1 _ (.inl hh); omega, fun hh => by have := b1 _ (.inr hh); omega⟩) (by simp only [List.mem_singleton]; omega) (by simp)⟩
theorem ses_Hear_any {w : World} {B : Nat} {S : XLay} {x : XS} (h : XB w B S x) (hd : x.ids.Nodup) (k z : Int) :
  Calls Tryz.prog 78 #[.pointer (some ⟨S.p, 0, none⟩), .int .i64 k, .int .i64 z] w fun e w' => ∃ vp vc no, e = .returned (.tuple #[.agg #[vp, vc], .int .i64 no]) /\ ToldX w w' S (x.hear k z) vp vc := by
 unfold XS.hear
 by_cases hk : k = 6
 ·subst hk
  rw [if_pos rfl]
  exact ses_Hear6 h hd z
 ·rw [if_neg hk]
  exact ses_HearN h k z hk
end
section
theorem bk_SesT_gizero1 {P : Prop} (h : P := by
 go_enter Tryz.func27, Tryz.ntmps27
 go_wp2_with (first
  | (go_at_call 60; refine (CN.out _).mono ?_; rintro e w0 ⟨rfl, rfl⟩)
  | (go_at_call 63; refine (CT.out _).mono ?_; rintro e w1 ⟨rfl, hb1⟩; have hB1 := hid (HB0.out.trans (hb1.mono (by simp))); have hZ1 := hid ((Blk.new w didZ 53).below hb1))
  | (refine wS 53 2 rfl w.heap.size _ didZ rfl rfl hZ1.out rfl rfl (by simp [didZ, Value.oneCell']) ?_; intro w4 hb4 hw4))
 refine bodyPost_ret (results_ctt Tryz.results27 rfl (run_loadVar_blk hb4 53 Tryz.underlying53 rfl (by kernel_rfl)) rfl rfl) rfl ?_
 exact ⟨rfl, hB1.out.trans (hw4.below hB1.out.size (by simp))⟩) : P := h
theorem ses_Give_name {w : World} {B : Nat} {S : XLay} {x : XS} (h : XB w B S x) (topic body : List UInt8) (qos : Int) (retain : Bool) (ht : topic.length <= 1000000) (hn : nameR topic = false) :
  Calls Tryz.prog 27 #[.pointer (some ⟨S.p, 0, none⟩), .string ⟨topic.toArray⟩, .string ⟨body.toArray⟩, .int .i64 qos, .bool retain] w fun e w' => e = .returned (.tuple #[.agg didZ, .bool false, .int .i64 2]) /\ Below w.heap.size w w' := by
 have CN := hid fun o => ses_none (h.alloc o)
 have CT := hid fun W => topic_Name topic W (by omega) (anyOK topic (by omega))
 rw [hn] at CT
 have hsz : ByteArray.size ⟨body.toArray⟩ = body.length := by simp [ByteArray.size]
 have H := hid h;have HB0 := hid ((Below.refl w.heap.size w).alloc (Nat.le_refl _) (.cells didZ 53))
 clear h hn ht;exact bk_SesT_gizero1
theorem ses_Give_body {w : World} {B : Nat} {S : XLay} {x : XS} (h : XB w B S x) (topic body : List UInt8) (qos : Int) (retain : Bool) (ht : topic.length <= 1000000) (hn : nameR topic = true) (hb : ¬ (body.length : Int) <= 2000) :
  Calls Tryz.prog 27 #[.pointer (some ⟨S.p, 0, none⟩), .string ⟨topic.toArray⟩, .string ⟨body.toArray⟩, .int .i64 qos, .bool retain] w fun e w' => e = .returned (.tuple #[.agg didZ, .bool false, .int .i64 2]) /\ Below w.heap.size w w' := by
 have CN := hid fun o => ses_none (h.alloc o)
 have CT := hid fun W => topic_Name topic W (by omega) (anyOK topic (by omega))
 rw [hn] at CT
 have hsz : ByteArray.size ⟨body.toArray⟩ = body.length := by simp [ByteArray.size]
 have H := hid h;have HB0 := hid ((Below.refl w.heap.size w).alloc (Nat.le_refl _) (.cells didZ 53))
 have e1 : decide (2000 < (body.length : Int)) = true := decide_eq_true (by omega)
 clear h hn ht;exact bk_SesT_gizero1
theorem ses_Give_low {w : World} {B : Nat} {S : XLay} {x : XS} (h : XB w B S x) (topic body : List UInt8) (qos : Int) (retain : Bool) (ht : topic.length <= 1000000) (hn : nameR topic = true) (hb : (body.length : Int) <= 2000) (hq : qos < 0) :
  Calls Tryz.prog 27 #[.pointer (some ⟨S.p, 0, none⟩), .string ⟨topic.toArray⟩, .string ⟨body.toArray⟩, .int .i64 qos, .bool retain] w fun e w' => e = .returned (.tuple #[.agg didZ, .bool false, .int .i64 2]) /\ Below w.heap.size w w' := by
 have CN := hid fun o => ses_none (h.alloc o)
 have CT := hid fun W => topic_Name topic W (by omega) (anyOK topic (by omega))
 rw [hn] at CT
 have hsz : ByteArray.size ⟨body.toArray⟩ = body.length := by simp [ByteArray.size]
 have H := hid h;have HB0 := hid ((Below.refl w.heap.size w).alloc (Nat.le_refl _) (.cells didZ 53))
 have e1 : decide (2000 < (body.length : Int)) = false := decide_eq_false (by omega)
 have e2 : decide (qos < 0) = true := decide_eq_true (by omega)
 clear h hn ht hb;exact bk_SesT_gizero1
theorem ses_Give_high {w : World} {B : Nat} {S : XLay} {x : XS} (h : XB w B S x) (topic body : List UInt8) (qos : Int) (retain : Bool) (ht : topic.length <= 1000000) (hn : nameR topic = true) (hb : (body.length : Int) <= 2000) (hq : 2 < qos) :
  Calls Tryz.prog 27 #[.pointer (some ⟨S.p, 0, none⟩), .string ⟨topic.toArray⟩, .string ⟨body.toArray⟩, .int .i64 qos, .bool retain] w fun e w' => e = .returned (.tuple #[.agg didZ, .bool false, .int .i64 2]) /\ Below w.heap.size w w' := by
 have CN := hid fun o => ses_none (h.alloc o)
 have CT := hid fun W => topic_Name topic W (by omega) (anyOK topic (by omega))
 rw [hn] at CT
 have hsz : ByteArray.size ⟨body.toArray⟩ = body.length := by simp [ByteArray.size]
 have H := hid h;have HB0 := hid ((Below.refl w.heap.size w).alloc (Nat.le_refl _) (.cells didZ 53))
 have e1 : decide (2000 < (body.length : Int)) = false := decide_eq_false (by omega)
 have e2 : decide (qos < 0) = false := decide_eq_false (by omega)
 have e3 : decide (2 < qos) = true := decide_eq_true (by omega)
 clear h hn ht hb;exact bk_SesT_gizero1
theorem ses_Give_say {w : World} {B : Nat} {S : XLay} {x : XS} (h : XB w B S x) (topic body : List UInt8) (retain : Bool) (ht : topic.length <= 1000000) (hn : nameR topic = true) (hb : (body.length : Int) <= 2000) (hoff : x.on = true) :
  Calls Tryz.prog 27 #[.pointer (some ⟨S.p, 0, none⟩), .string ⟨topic.toArray⟩, .string ⟨body.toArray⟩, .int .i64 0, .bool retain] w fun e w' => ∃ g, e = .returned (.tuple #[.agg #[.slice (some ⟨g, 0, none⟩) 1 1, .slice none 0 0], .bool true, .int .i64 0]) /\
   SDid w w' S S x (.slice (some ⟨g, 0, none⟩) 1 1) (.slice none 0 0) [⟨3, false, retain, 0, topic, body, 0⟩] [] := by
 have CN := hid fun o => ses_none (h.alloc o)
 have CT := hid fun W => topic_Name topic W (by omega) (anyOK topic (by omega))
 rw [hn] at CT
 have hsz : ByteArray.size ⟨body.toArray⟩ = body.length := by simp [ByteArray.size]
 have H := hid h;have HB0 := hid ((Below.refl w.heap.size w).alloc (Nat.le_refl _) (.cells didZ 53))
 have e1 : decide (2000 < (body.length : Int)) = false := decide_eq_false (by omega)
 have hgl := h.ob.tz.lt
 clear h hn hb ht;go_enter Tryz.func27, Tryz.ntmps27
 go_wp2_with (first
  | (go_at_call 60; refine (CN.out _).mono ?_; rintro e w0 ⟨rfl, rfl⟩)
  | (go_at_call 63; refine (CT.out _).mono ?_; rintro e w1 ⟨rfl, hb1⟩; have hB1 := hid (HB0.out.trans (hb1.mono (by simp))); have hx1 := hid (H.out.below hB1.out).top; have hZ1 := hid ((Blk.new w didZ 53).below hb1); have k8 : w1.cell? ⟨S.p, 8, none⟩ = some (.bool x.on) := hx1.out.box.cell 8; rw [hoff] at k8)
  | (refine wS 53 2 rfl w.heap.size _ #[.slice (some ⟨w1.heap.size, 0, none⟩) 1 1, .slice none 0 0] rfl rfl (hZ1.out.alloc _) rfl rfl (by simp [Value.oneCell']) ?_; intro w4 hb4 hw4))
 refine bodyPost_ret (results_ctt Tryz.results27 rfl (run_loadVar_blk hb4 53 Tryz.underlying53 rfl (by kernel_rfl)) rfl rfl) rfl ?_
 have hs1 : w.heap.size < w1.heap.size := hZ1.out.lt
 have hP := hid ((Blk.new w1 (PackV.cells ⟨3, false, retain, 0, topic, body, 0⟩).toArray 81).wrote hw4 (by simp only [List.mem_singleton]; omega))
 have hx4 := (hx1.out.alloc (.cells (PackV.cells ⟨3, false, retain, 0, topic, body, 0⟩).toArray 81)).out hw4 (by simpa using H.out.foot_lt (Nat.le_refl _)) (by simp only [List.mem_singleton]; omega)
 refine ⟨w1.heap.size, rfl, ⟨hx4.top, rfl, ⟨?_, fun b hb => .inl hb⟩, ?_, World.ownsRow_nil _ _ _ _, ?_⟩⟩
 ·exact ((Wrote.of_below (M := S.foot) hB1.out).trans (Wrote.alloc _ _ _)).andNew hw4 (by simp)
 ·exact ⟨by simp [PackV.cells], .inr ⟨w1.heap.size, 1, _, rfl, by omega, hP.out, by simp, by decide, by simp [PackV.cells], by simp [PackV.cells]⟩⟩
 ·intro b hb
  simp [blk, Value.ownBlock] at hb
  subst hb;exact H.out.foot_lt (by omega)
theorem ses_Give_no {w : World} {B : Nat} {S : XLay} {x : XS} (h : XB w B S x) (topic body : List UInt8) (qos : Int) (retain : Bool) (ht : topic.length <= 1000000) (hn : nameR topic = true) (hb : (body.length : Int) <= 2000) (hq : 1 <= qos /\ qos <= 2) (no : Int) (hno : no ≠ 0)
  (hP : ∀ W, XB W W.heap.size S x -> Calls Tryz.prog 41 #[.pointer (some ⟨S.o.p, 0, none⟩), .string ⟨topic.toArray⟩, .string ⟨body.toArray⟩, .int .i64 qos, .bool retain] W fun e w' => e = .returned (.tuple #[.agg #[.slice none 0 0, .slice none 0 0], .int .i64 no]) /\ Below W.heap.size W w') :
  Calls Tryz.prog 27 #[.pointer (some ⟨S.p, 0, none⟩), .string ⟨topic.toArray⟩, .string ⟨body.toArray⟩, .int .i64 qos, .bool retain] w fun e w' => e = .returned (.tuple #[.agg didZ, .bool false, .int .i64 0]) /\ Below w.heap.size w w' := by
 have CN := hid fun o => ses_none (h.alloc o)
 have CT := hid fun W => topic_Name topic W (by omega) (anyOK topic (by omega))
 rw [hn] at CT
 have hsz : ByteArray.size ⟨body.toArray⟩ = body.length := by simp [ByteArray.size]
 have H := hid h;have HB0 := hid ((Below.refl w.heap.size w).alloc (Nat.le_refl _) (.cells didZ 53))
 have e1 : decide (2000 < (body.length : Int)) = false := decide_eq_false (by omega)
 have e2 : decide (qos < 0) = false := decide_eq_false (by omega)
 have e3 : decide (2 < qos) = false := decide_eq_false (by omega)
 have e4 : (qos == 0) = false := by simp; omega
 have e5 : (no != 0) = true := by simpa using hno
 have HP := hid hP;clear h hn hb hq ht hP hno;go_enter Tryz.func27, Tryz.ntmps27
 go_wp2_with (first
  | (go_at_call 60; refine (CN.out _).mono ?_; rintro e w0 ⟨rfl, rfl⟩)
  | (go_at_call 63; refine (CT.out _).mono ?_; rintro e w1 ⟨rfl, hb1⟩; have hB1 := hid (HB0.out.trans (hb1.mono (by simp))); have hx1 := hid (H.out.below hB1.out).top; have hZ1 := hid ((Blk.new w didZ 53).below hb1); have k0 : w1.cell? ⟨S.p, 0, none⟩ = some (.pointer (some ⟨S.o.p, 0, none⟩)) := hx1.out.box.cell 0; have k8 : w1.cell? ⟨S.p, 8, none⟩ = some (.bool x.on) := hx1.out.box.cell 8)
  | (go_at_call 41; refine (HP.out _ hx1.out).mono ?_; rintro e w2 ⟨rfl, hb2⟩; have hB2 := hid (hB1.out.trans (hb2.mono hB1.out.size)); have hZ2 := hid (hZ1.out.below hb2))
  | (refine wS 53 2 rfl w2.heap.size _ didZ rfl rfl (Blk.new w2 _ _) rfl rfl (by simp [didZ, Value.oneCell']) ?_; intro w3 hb3 hw3; have hw23 := hid ((Wrote.alloc [w2.heap.size] w2 (.cells didZ 53)).trans hw3); have hZ3 := hid (hZ2.out.wrote hw23.out (by have := hZ2.out.lt; simp only [List.mem_singleton]; omega)); have hB3 := hid (hB2.out.trans (hw23.out.below hB2.out.size (by have := hB2.out.size; simp; omega))))
  | (refine wS 53 2 rfl w.heap.size _ didZ rfl rfl hZ3.out rfl rfl (by simp [didZ, Value.oneCell']) ?_; intro w4 hb4 hw4))
 refine bodyPost_ret (results_ctt Tryz.results27 rfl (run_loadVar_blk hb4 53 Tryz.underlying53 rfl (by kernel_rfl)) rfl rfl) rfl ?_
 exact ⟨rfl, hB3.out.trans (hw4.below hB3.out.size (by simp))⟩
theorem ses_Give_any {w : World} {B : Nat} {S : XLay} {x : XS} (h : XB w B S x) (topic body : List UInt8) (qos : Int) (retain : Bool) (ht : topic.length <= 1000000) (hseq : x.o.seq <= 4611686018427387904) :
  Calls Tryz.prog 27 #[.pointer (some ⟨S.p, 0, none⟩), .string ⟨topic.toArray⟩, .string ⟨body.toArray⟩, .int .i64 qos, .bool retain] w fun e w' => ∃ vp vc is no, e = .returned (.tuple #[.agg #[vp, vc], .bool is, .int .i64 no]) /\ ToldX w w' S (x.give topic body qos retain) vp vc := by
 have bad : ¬ (nameR topic = true /\ (body.length : Int) <= 2000 /\ 0 <= qos /\ qos <= 2) -> Calls Tryz.prog 27 #[.pointer (some ⟨S.p, 0, none⟩), .string ⟨topic.toArray⟩, .string ⟨body.toArray⟩, .int .i64 qos, .bool retain] w (fun e w' => e = .returned (.tuple #[.agg didZ, .bool false, .int .i64 2]) /\ Below w.heap.size w w') ->
   Calls Tryz.prog 27 #[.pointer (some ⟨S.p, 0, none⟩), .string ⟨topic.toArray⟩, .string ⟨body.toArray⟩, .int .i64 qos, .bool retain] w fun e w' => ∃ vp vc is no, e = .returned (.tuple #[.agg #[vp, vc], .bool is, .int .i64 no]) /\ ToldX w w' S (x.give topic body qos retain) vp vc := fun hh hc => by
  refine hc.mono ?_
  rintro e w' ⟨rfl, hb⟩
  unfold XS.give
  rw [if_neg hh]
  exact ⟨_, _, false, 2, rfl, S, sdid_none h hb⟩
 cases hn : nameR topic with
 | false => exact bad (fun hh => by rw [hn] at hh; cases hh.1) (ses_Give_name h topic body qos retain ht hn)
 | true =>
  by_cases hb : (body.length : Int) <= 2000
  ·by_cases hq0 : qos < 0
   ·exact bad (fun hh => by omega) (ses_Give_low h topic body qos retain ht hn hb hq0)
   ·by_cases hq2 : 2 < qos
    ·exact bad (fun hh => by omega) (ses_Give_high h topic body qos retain ht hn hb hq2)
    ·unfold XS.give
     rw [if_pos ⟨hn, hb, by omega, by omega⟩]
     by_cases hz : qos = 0
     ·subst hz
      rw [if_pos rfl]
      cases ho : x.on with
      | true =>
       rw [if_pos rfl]
       refine (ses_Give_say h topic body retain ht hn hb ho).mono ?_
       rintro e w' ⟨g, rfl, d⟩
       exact ⟨_, _, true, 0, rfl, S, d⟩
      | false =>
       rw [if_neg (show ¬ (false = true) by simp)]
       refine (ses_Give_zero h topic body retain ht hn hb ho).mono ?_
       rintro e w' ⟨rfl, hb⟩
       exact ⟨_, _, false, 0, rfl, S, sdid_none h hb⟩
     ·rw [if_neg hz]
      have hq : 1 <= qos /\ qos <= 2 := by omega
      by_cases hm : putMay (x.o.row topic body qos retain) = true
      ·by_cases hr : (x.o.l.length : Int) < x.o.room
       ·rw [if_pos ⟨hm, hr⟩]
        cases ho : x.on with
        | true =>
         rw [if_pos rfl]
         refine (ses_Give_on h topic body qos retain ht hn hb hq hm hr hseq ho).mono ?_
         rintro e w' ⟨vp, vc, L', rfl, d⟩
         exact ⟨vp, vc, true, 0, rfl, _, by rw [ho] at d; exact d⟩
        | false =>
         rw [if_neg (show ¬ (false = true) by simp)]
         refine (ses_Give_off h topic body qos retain ht hn hb hq hm hr hseq ho).mono ?_
         rintro e w' ⟨vp, vc, L', rfl, d⟩
         exact ⟨vp, vc, true, 0, rfl, _, by rw [ho] at d; exact d⟩
       ·rw [if_neg (fun hh => hr hh.2)]
        refine (ses_Give_no h topic body qos retain ht hn hb hq 150 (by decide) (fun W hX => out_Put_full hX.ob topic body qos retain (by omega) (anyOK topic (by omega)) hm (by omega))).mono ?_
        rintro e w' ⟨rfl, hb⟩
        exact ⟨_, _, false, 0, rfl, S, sdid_none h hb⟩
      ·rw [if_neg (fun hh => hm hh.1)]
       refine (ses_Give_no h topic body qos retain ht hn hb hq 2 (by decide) (fun W hX => out_Put_arg hX.ob topic body qos retain (by omega) (anyOK topic (by omega)) (by simpa using hm))).mono ?_
       rintro e w' ⟨rfl, hb⟩
       exact ⟨_, _, false, 0, rfl, S, sdid_none h hb⟩
  ·exact bad (fun hh => hb hh.2.1) (ses_Give_body h topic body qos retain ht hn hb)
end
end Go.Proofs.YtoinabapaeebfaaGreatDoor
