/- Parts of the proof of SessionRows: contracts of functions that it reaches, and plain lemmas. No condition of their own. -/
import Derived.Test.YtoinabapaeebfaaGreatDoorPk25
import Derived.Test.YtoinabapaeebfaaGreatDoorPk20
import Derived.Test.YtoinabapaeebfaaGreatDoorPk16
import Derived.Test.YtoinabapaeebfaaGreatDoorPk23
set_option linter.unusedSimpArgs false
set_option linter.unusedVariables false
set_option maxRecDepth 100000
set_option maxHeartbeats 8000000
namespace Go.Proofs.YtoinabapaeebfaaGreatDoor
open Go.RowKit Go.Shelf
section
structure SDid (w w' : World) (S S' : XLay) (x' : XS) (vp vc : Value) (ps : List PackV) (cs : List ChangeV) : Prop where
 xb : XB w' w'.heap.size S' x'
 p : S'.p = S.p
 stp : Stp S.foot S'.foot w w'
 packs : w'.ownsRow w.heap.size 81 24 vp ps.length (ps.flatMap PackV.cells)
 chgs : w'.ownsRow w.heap.size 115 10 vc cs.length (cs.flatMap ChangeV.cells)
 free : ∀ b ∈ blk vp ++ blk vc, b ∉ S'.foot
def XS.wantE (x : XS) (f : List UInt8) (q : Int) : Int := if subMay (x.sub f q) = true then (if (look x.wants f).isSome = false /\ x.subs <= x.wants.length then 330 else 0) else 2
def XS.wantC (x : XS) (f : List UInt8) (q : Int) : List ChangeV := if x.wantE f q = 0 /\ look x.wants f ≠ some q then [⟨false, x.sub f q⟩] else []
def XS.want (x : XS) (f : List UInt8) (q : Int) : XS := if x.wantE f q = 0 /\ look x.wants f ≠ some q then { x with wants := ins x.wants f q } else x
theorem XB.top {w : World} {B : Nat} {S : XLay} {x : XS} (h : XB w B S x) : XB w w.heap.size S x :=
 ⟨h.box, ob_rebase2 h.ob h.nil, h.nil, h.inb, h.set, h.wm, h.will, h.apart, h.nodup, h.gg, h.ok⟩
theorem XB.foot_lt {w : World} {B : Nat} {S : XLay} {x : XS} (h : XB w B S x) {n : Nat} (hn : w.heap.size <= n) : n ∉ S.foot := fun hf => by have := h.lt n hf; omega
theorem sdid_none {w w' : World} {B : Nat} {S : XLay} {x : XS} (h : XB w B S x) (hb : Below w.heap.size w w') : SDid w w' S S x (.slice none 0 0) (.slice none 0 0) [] [] :=
 ⟨(h.below hb).top, rfl, Stp.below hb, World.ownsRow_nil _ _ _ _, World.ownsRow_nil _ _ _ _, by simp [blk, Value.ownBlock]⟩
def didZ : Array Value := #[.slice none 0 0, .slice none 0 0]
theorem ses_Want_bad {w : World} {B : Nat} {S : XLay} {x : XS} (h : XB w B S x) (f : List UInt8) (q : Int) (hf : f.length <= 1000000) (hm : subMay (x.sub f q) = false) :
  Calls Tryz.prog 29 #[.pointer (some ⟨S.p, 0, none⟩), .string ⟨f.toArray⟩, .int .i64 q] w fun e w' => e = .returned (.tuple #[.agg didZ, .int .i64 2]) /\ Below w.heap.size w w' := by
 have CN := hid fun o => ses_none (h.alloc o)
 have CS := fun o => ses_sub (h.alloc o) f q
 have hcl := h.ob.ok.cl
 have CK := fun W => rec_Check_sub x.o.client f q W (by omega) hf
 rw [show subMay ⟨2, x.o.client, 0, 0, f, [], q, false, 0⟩ = false from hm] at CK
 unfold XS.sub RowV.vals at CS
 unfold RowV.vals at CK
 replace CS := hid CS;replace CK := hid CK;have H := hid h;have HB0 := hid ((Below.refl w.heap.size w).alloc (Nat.le_refl _) (.cells didZ 53))
 obtain ⟨ol, hlk0⟩ : ∃ ol, look x.wants f = ol := ⟨_, rfl⟩
 have hlk := hid hlk0;clear h hm hlk0 hcl hf;go_enter Tryz.func29, Tryz.ntmps29
 go_wp2_with (first
  | (go_at_call 60; refine (CN.out _).mono ?_; rintro e w0 ⟨rfl, rfl⟩)
  | (go_at_call 65; refine (CS.out _).mono ?_; rintro e w1 ⟨rfl, hb1⟩)
  | (refine wS 33 9 rfl w1.heap.size _ #[.int .i64 2,.string ⟨x.o.client.toArray⟩,.int .i64 0,.int .i64 0,.string ⟨f.toArray⟩,.string ⟨#[]⟩,.int .i64 q,.bool false,.int .i64 0] rfl rfl (Blk.new w1 _ _) rfl rfl (by simp [Value.oneCell']) ?_; intro w3 hb3 hw3; have hB3 := hid (((HB0.out.trans (hb1.mono (by simp))).alloc (by have := hb1.size; simp at this; omega) _).trans (hw3.below (by have := hb1.size; simp at this ⊢; omega) (by have := hb1.size; simp at this ⊢; omega))); have hx3 := hid (H.out.below hB3.out); have hZ3 := hid ((((Blk.new w didZ 53).below hb1).alloc _).wrote hw3 (by have := hb1.size; simp at this ⊢; omega)); have k6 : w3.cell? ⟨S.p, 6, none⟩ = some (.map (some S.m)) := hx3.out.box.cell 6; have HL := run_lookup_text (P := Tryz.prog) 83 9 3 Tryz.underlying83 Tryz.underlying9 hx3.out.wm (by kernel_rfl) f true; simp only [hlk.out, if_true] at HL)
  | (refine wL 33 rfl rfl hb3 Tryz.underlying33 ?_)
  | (go_at_call 53; refine (CK.out _).mono ?_; rintro e w4 ⟨rfl, hb4⟩; have hB4 := hid (hB3.out.trans (hb4.mono hB3.out.size)); have hx4 := hid (H.out.below hB4.out); have hZ4 := hid (hZ3.out.below hb4); have hR4 := hid (hb3.below hb4))
  | (refine wS 53 2 rfl w.heap.size _ didZ rfl rfl hZ4.out rfl rfl (by simp [didZ,Value.oneCell']) ?_; intro w5 hb5 hw5))
 refine bodyPost_ret (results_ct1 Tryz.results29 rfl (run_loadVar_blk hb5 53 Tryz.underlying53 rfl (by kernel_rfl)) rfl) rfl ?_
 exact ⟨rfl, hB4.out.trans (hw5.below hB4.out.size (by simp))⟩
theorem ses_Want_full {w : World} {B : Nat} {S : XLay} {x : XS} (h : XB w B S x) (f : List UInt8) (q : Int) (hf : f.length <= 1000000) (hm : subMay (x.sub f q) = true) (hlk0 : look x.wants f = none) (hfull : x.subs <= x.wants.length) :
  Calls Tryz.prog 29 #[.pointer (some ⟨S.p, 0, none⟩), .string ⟨f.toArray⟩, .int .i64 q] w fun e w' => e = .returned (.tuple #[.agg didZ, .int .i64 330]) /\ Below w.heap.size w w' := by
 have CN := hid fun o => ses_none (h.alloc o)
 have CS := fun o => ses_sub (h.alloc o) f q
 have hcl := h.ob.ok.cl
 have CK := fun W => rec_Check_sub x.o.client f q W (by omega) hf
 rw [show subMay ⟨2, x.o.client, 0, 0, f, [], q, false, 0⟩ = true from hm] at CK
 unfold XS.sub RowV.vals at CS
 unfold RowV.vals at CK
 replace CS := hid CS;replace CK := hid CK;have H := hid h;have HB0 := hid ((Below.refl w.heap.size w).alloc (Nat.le_refl _) (.cells didZ 53))
 have hlk := hid hlk0;clear h hm hlk0 hcl hf;have dfull : decide (x.subs <= (x.wants.length : Int)) = true := decide_eq_true hfull
 go_enter Tryz.func29, Tryz.ntmps29
 go_wp2_with (first
  | (go_at_call 60; refine (CN.out _).mono ?_; rintro e w0 ⟨rfl, rfl⟩)
  | (go_at_call 65; refine (CS.out _).mono ?_; rintro e w1 ⟨rfl, hb1⟩)
  | (refine wS 33 9 rfl w1.heap.size _ #[.int .i64 2,.string ⟨x.o.client.toArray⟩,.int .i64 0,.int .i64 0,.string ⟨f.toArray⟩,.string ⟨#[]⟩,.int .i64 q,.bool false,.int .i64 0] rfl rfl (Blk.new w1 _ _) rfl rfl (by simp [Value.oneCell']) ?_; intro w3 hb3 hw3; have hB3 := hid (((HB0.out.trans (hb1.mono (by simp))).alloc (by have := hb1.size; simp at this; omega) _).trans (hw3.below (by have := hb1.size; simp at this ⊢; omega) (by have := hb1.size; simp at this ⊢; omega))); have hx3 := hid (H.out.below hB3.out); have hZ3 := hid ((((Blk.new w didZ 53).below hb1).alloc _).wrote hw3 (by have := hb1.size; simp at this ⊢; omega)); have k6 : w3.cell? ⟨S.p, 6, none⟩ = some (.map (some S.m)) := hx3.out.box.cell 6; have HL := run_lookup_text (P := Tryz.prog) 83 9 3 Tryz.underlying83 Tryz.underlying9 hx3.out.wm (by kernel_rfl) f true; simp only [hlk.out, if_true] at HL)
  | (refine wL 33 rfl rfl hb3 Tryz.underlying33 ?_)
  | (go_at_call 53; refine (CK.out _).mono ?_; rintro e w4 ⟨rfl, hb4⟩; have hB4 := hid (hB3.out.trans (hb4.mono hB3.out.size)); have hx4 := hid (H.out.below hB4.out); have hZ4 := hid (hZ3.out.below hb4); have hR4 := hid (hb3.below hb4))
  )
 have q6 : w4.cell? ⟨S.p, 6, none⟩ = some (.map (some S.m)) := hx4.out.box.cell 6
 have q4 : w4.cell? ⟨S.p, 4, none⟩ = some (.int .i64 x.subs) := hx4.out.box.cell 4
 have HLen := fun n => run_len_text (P := Tryz.prog) 83 9 3 Tryz.underlying83 (hx4.out.wm.below (below_drewN' w4 n)) 3
 go_quiet (fail)
 go_wp2_with (refine wS 53 2 rfl w.heap.size _ didZ rfl rfl (hZ4.out.below (below_drewN' w4 nq)) rfl rfl (by simp [didZ, Value.oneCell']) ?_; intro w5 hb5 hw5)
 refine bodyPost_ret (results_ct1 Tryz.results29 rfl (run_loadVar_blk hb5 53 Tryz.underlying53 rfl (by kernel_rfl)) rfl) rfl ?_
 exact ⟨rfl, (hB4.out.trans ((below_drewN' w4 nq).mono hB4.out.size)).trans (hw5.below (by have := hB4.out.size; simp; exact this) (by simp))⟩
theorem ses_Want_same {w : World} {B : Nat} {S : XLay} {x : XS} (h : XB w B S x) (f : List UInt8) (q : Int) (hf : f.length <= 1000000) (hm : subMay (x.sub f q) = true) (hlk0 : look x.wants f = some q) :
  Calls Tryz.prog 29 #[.pointer (some ⟨S.p, 0, none⟩), .string ⟨f.toArray⟩, .int .i64 q] w fun e w' => e = .returned (.tuple #[.agg didZ, .int .i64 0]) /\ Below w.heap.size w w' := by
 have CN := hid fun o => ses_none (h.alloc o)
 have CS := fun o => ses_sub (h.alloc o) f q
 have hcl := h.ob.ok.cl
 have CK := fun W => rec_Check_sub x.o.client f q W (by omega) hf
 rw [show subMay ⟨2, x.o.client, 0, 0, f, [], q, false, 0⟩ = true from hm] at CK
 unfold XS.sub RowV.vals at CS
 unfold RowV.vals at CK
 replace CS := hid CS;replace CK := hid CK;have H := hid h;have HB0 := hid ((Below.refl w.heap.size w).alloc (Nat.le_refl _) (.cells didZ 53))
 have hlk := hid hlk0;clear h hm hlk0 hcl hf;go_enter Tryz.func29, Tryz.ntmps29
 go_wp2_with (first
  | (go_at_call 60; refine (CN.out _).mono ?_; rintro e w0 ⟨rfl, rfl⟩)
  | (go_at_call 65; refine (CS.out _).mono ?_; rintro e w1 ⟨rfl, hb1⟩)
  | (refine wS 33 9 rfl w1.heap.size _ #[.int .i64 2,.string ⟨x.o.client.toArray⟩,.int .i64 0,.int .i64 0,.string ⟨f.toArray⟩,.string ⟨#[]⟩,.int .i64 q,.bool false,.int .i64 0] rfl rfl (Blk.new w1 _ _) rfl rfl (by simp [Value.oneCell']) ?_; intro w3 hb3 hw3; have hB3 := hid (((HB0.out.trans (hb1.mono (by simp))).alloc (by have := hb1.size; simp at this; omega) _).trans (hw3.below (by have := hb1.size; simp at this ⊢; omega) (by have := hb1.size; simp at this ⊢; omega))); have hx3 := hid (H.out.below hB3.out); have hZ3 := hid ((((Blk.new w didZ 53).below hb1).alloc _).wrote hw3 (by have := hb1.size; simp at this ⊢; omega)); have k6 : w3.cell? ⟨S.p, 6, none⟩ = some (.map (some S.m)) := hx3.out.box.cell 6; have HL := run_lookup_text (P := Tryz.prog) 83 9 3 Tryz.underlying83 Tryz.underlying9 hx3.out.wm (by kernel_rfl) f true; simp only [hlk.out, if_true] at HL)
  | (refine wL 33 rfl rfl hb3 Tryz.underlying33 ?_)
  | (go_at_call 53; refine (CK.out _).mono ?_; rintro e w4 ⟨rfl, hb4⟩; have hB4 := hid (hB3.out.trans (hb4.mono hB3.out.size)); have hx4 := hid (H.out.below hB4.out); have hZ4 := hid (hZ3.out.below hb4); have hR4 := hid (hb3.below hb4))
  )
 have q6 : w4.cell? ⟨S.p, 6, none⟩ = some (.map (some S.m)) := hx4.out.box.cell 6
 have q4 : w4.cell? ⟨S.p, 4, none⟩ = some (.int .i64 x.subs) := hx4.out.box.cell 4
 have HLen := fun n => run_len_text (P := Tryz.prog) 83 9 3 Tryz.underlying83 (hx4.out.wm.below (below_drewN' w4 n)) 3
 go_quiet (fail)
 go_wp2_with (refine wS 53 2 rfl w.heap.size _ didZ rfl rfl (hZ4.out.below (below_drewN' w4 nq)) rfl rfl (by simp [didZ, Value.oneCell']) ?_; intro w5 hb5 hw5)
 refine bodyPost_ret (results_ct1 Tryz.results29 rfl (run_loadVar_blk hb5 53 Tryz.underlying53 rfl (by kernel_rfl)) rfl) rfl ?_
 exact ⟨rfl, (hB4.out.trans ((below_drewN' w4 nq).mono hB4.out.size)).trans (hw5.below (by have := hB4.out.size; simp; exact this) (by simp))⟩
theorem wpList_update_text {P : Program} {w : World} {ops : Array Oper} {rest : List Oper} {o : Oper} {a : Act} {Q : Exit -> Act -> World -> Prop}
  (hg : o.guard = none) (m x v : Operand) (t : TypeId) (hop : o.op = Op.mapUpdate t m x v) (k e : TypeId) (ht : P.underlying t = some (.map k e)) (hk : P.underlying k = some .string) {b : Nat} {l : WL} (h : WM w b l)
  (hm : a.eval m = .map (some b)) (s : List UInt8) (val : Int) (hx : a.eval x = .string ⟨s.toArray⟩) (hv : a.eval v = .int .i64 val)
  (hK : ∀ w', WM w' b (ins l s val) -> w.grownBy w' (some b) -> wpList P ops Q rest (a.put o.dst undef) w') :
  wpList P ops Q (o :: rest) a w := by
 refine wpList_plain hg fun K' hK' => ?_
 obtain ⟨w', hrun, h1, h2⟩ := run_insert_text t k e ht hk h s val
 unfold Oper.wp
 simp [execOp, hop, hm, hx, hv, hrun, Result.andThen]
 exact hK' _ _ (hK _ h1 h2)
theorem ins_len (l : WL) (k : List UInt8) (v : Int) : (ins l k v).length = if (look l k).isSome then l.length else l.length + 1 := by
 unfold ins
 split <;> simp
theorem XB.rewant {w w' : World} {B : Nat} {S : XLay} {x : XS} (h : XB w B S x) (l : WL) (hw : Wrote [S.m] w w') (hm : WM w' S.m l) (hl : (l.length : Int) <= x.subs) : XB w' B S { x with wants := l } := by
 have nd := h.nodup
 have hgg := h.gg
 simp only [XLay.own, List.nodup_cons, List.mem_cons, not_or] at nd hgg
 have ho : S.m ∉ S.o.foot := h.apart _ (by simp [XLay.own])
 refine ⟨h.box.wrote hw (by simp only [List.mem_singleton]; exact nd.1.2.2.1), h.ob.out hw (by simpa using ho) (by simp only [List.mem_singleton]; exact hgg.2.2.2.1), h.nil, h.inb.wrote hw (by simp only [List.mem_singleton]; exact nd.2.1.2.1) (by simp only [List.mem_singleton]; exact nd.2.2.1.1), h.set, hm, h.will.keep (fun b hb => hw.block b (h.will.lt b hb) (by simp only [List.mem_singleton]; rintro rfl; exact nd.2.2.2.1 hb)), h.apart, h.nodup, h.gg, ⟨h.ok.most, h.ok.subs, h.ok.ids, h.ok.under, hl, h.ok.keep⟩⟩
theorem ses_Want_put {w : World} {B : Nat} {S : XLay} {x : XS} (h : XB w B S x) (f : List UInt8) (q : Int) (hf : f.length <= 1000000) (hm : subMay (x.sub f q) = true) (ol : Option Int) (hlk0 : look x.wants f = ol)
  (hol : (ol = none /\ (x.wants.length : Int) < x.subs) \/ ∃ q', ol = some q' /\ q' ≠ q) :
  Calls Tryz.prog 29 #[.pointer (some ⟨S.p, 0, none⟩), .string ⟨f.toArray⟩, .int .i64 q] w fun e w' => ∃ g, e = .returned (.tuple #[.agg #[.slice none 0 0, .slice (some ⟨g, 0, none⟩) 1 1], .int .i64 0]) /\
   SDid w w' S S { x with wants := ins x.wants f q } (.slice none 0 0) (.slice (some ⟨g, 0, none⟩) 1 1) [] [⟨false, x.sub f q⟩] := by
 have hil : ((ins x.wants f q).length : Int) <= x.subs := by
  have hw := h.ok.wants
  rw [ins_len]
  rcases hol with ⟨rfl, h1⟩ | ⟨q', rfl, h1⟩
  ·rw [hlk0]; simp; omega
  ·rw [hlk0]; simp; exact hw
 have hil := hid hil;have CN := hid fun o => ses_none (h.alloc o)
 have CS := fun o => ses_sub (h.alloc o) f q
 have hcl := h.ob.ok.cl
 have CK := fun W => rec_Check_sub x.o.client f q W (by omega) hf
 rw [show subMay ⟨2, x.o.client, 0, 0, f, [], q, false, 0⟩ = true from hm] at CK
 unfold XS.sub RowV.vals at CS
 unfold RowV.vals at CK
 replace CS := hid CS;replace CK := hid CK;have H := hid h;have HB0 := hid ((Below.refl w.heap.size w).alloc (Nat.le_refl _) (.cells didZ 53))
 have hlk := hid hlk0;clear h hm hlk0 hcl hf;rcases hol with ⟨rfl, hroom⟩ | ⟨q', rfl, hne⟩
 ·have dfull : decide (x.subs <= (x.wants.length : Int)) = false := decide_eq_false (by omega)
  go_enter Tryz.func29, Tryz.ntmps29
  go_wp2_with (first
   | (go_at_call 60; refine (CN.out _).mono ?_; rintro e w0 ⟨rfl, rfl⟩)
   | (go_at_call 65; refine (CS.out _).mono ?_; rintro e w1 ⟨rfl, hb1⟩)
   | (refine wS 33 9 rfl w1.heap.size _ #[.int .i64 2,.string ⟨x.o.client.toArray⟩,.int .i64 0,.int .i64 0,.string ⟨f.toArray⟩,.string ⟨#[]⟩,.int .i64 q,.bool false,.int .i64 0] rfl rfl (Blk.new w1 _ _) rfl rfl (by simp [Value.oneCell']) ?_; intro w3 hb3 hw3; have hB3 := hid (((HB0.out.trans (hb1.mono (by simp))).alloc (by have := hb1.size; simp at this; omega) _).trans (hw3.below (by have := hb1.size; simp at this ⊢; omega) (by have := hb1.size; simp at this ⊢; omega))); have hx3 := hid (H.out.below hB3.out); have hZ3 := hid ((((Blk.new w didZ 53).below hb1).alloc _).wrote hw3 (by have := hb1.size; simp at this ⊢; omega)); have k6 : w3.cell? ⟨S.p, 6, none⟩ = some (.map (some S.m)) := hx3.out.box.cell 6; have HL := run_lookup_text (P := Tryz.prog) 83 9 3 Tryz.underlying83 Tryz.underlying9 hx3.out.wm (by kernel_rfl) f true; simp only [hlk.out, if_true] at HL)
   | (refine wL 33 rfl rfl hb3 Tryz.underlying33 ?_)
   | (go_at_call 53; refine (CK.out _).mono ?_; rintro e w4 ⟨rfl, hb4⟩; have hB4 := hid (hB3.out.trans (hb4.mono hB3.out.size)); have hx4 := hid (H.out.below hB4.out); have hZ4 := hid (hZ3.out.below hb4); have hR4 := hid (hb3.below hb4))
   )
  have q6 : w4.cell? ⟨S.p, 6, none⟩ = some (.map (some S.m)) := hx4.out.box.cell 6
  have q4 : w4.cell? ⟨S.p, 4, none⟩ = some (.int .i64 x.subs) := hx4.out.box.cell 4
  have HLen := fun n => run_len_text (P := Tryz.prog) 83 9 3 Tryz.underlying83 (hx4.out.wm.below (below_drewN' w4 n)) 3
  go_quiet (fail)
  have hBn := hid (below_drewN' w4 nq)
  have hxn := hid (hx4.out.below hBn.out)
  have q6n : (w4.drewN nq).cell? ⟨S.p, 6, none⟩ = some (.map (some S.m)) := hxn.out.box.cell 6
  go_wp2_with (first
   | (refine wpList_update_text rfl _ _ _ 83 rfl 9 3 Tryz.underlying83 Tryz.underlying9 hxn.out.wm rfl f q rfl rfl ?_; intro w6 hwm6 hg6; have hR6 := hid (Blk.keep (hR4.out.below hBn.out) (hg6.block _ (hR4.out.below hBn.out).lt (fun he => by have h1 := H.out.wm.lt; have h2 := hb1.size; simp only [Option.some.injEq] at he; simp at h2; omega))); have hZ6 := hid (Blk.keep (hZ4.out.below hBn.out) (hg6.block _ (hZ4.out.below hBn.out).lt (fun he => by have h1 := H.out.wm.lt; simp only [Option.some.injEq] at he; omega))))
   | (refine wL 33 rfl rfl hR6.out Tryz.underlying33 ?_)
   | (refine wS 53 2 rfl w.heap.size _ #[.slice none 0 0, .slice (some ⟨w6.heap.size, 0, none⟩) 1 1] rfl rfl (hZ6.out.alloc _) rfl rfl (by simp [Value.oneCell']) ?_; intro w7 hb7 hw7))
  refine bodyPost_ret (results_ct1 Tryz.results29 rfl (run_loadVar_blk hb7 53 Tryz.underlying53 rfl (by kernel_rfl)) rfl) rfl ?_
  have hs4 : w.heap.size <= w4.heap.size := hB4.out.size
  have hsn : w4.heap.size <= (w4.drewN nq).heap.size := hBn.out.size
  have hs6 : (w4.drewN nq).heap.size <= w6.heap.size := hg6.size
  have hw6 : Wrote [S.m] (w4.drewN nq) w6 := Wrote.of_grown hg6 (fun k hk => by cases hk; simp)
  have hx6 := hxn.out.rewant (ins x.wants f q) hw6 hwm6 hil.out
  have hnf : w.heap.size ∉ S.foot := H.out.foot_lt (Nat.le_refl _)
  have hx7 := (hx6.alloc (.cells #[.bool false, .int .i64 2, .string ⟨x.o.client.toArray⟩, .int .i64 0, .int .i64 0, .string ⟨f.toArray⟩, .string ⟨#[]⟩, .int .i64 q, .bool false, .int .i64 0] 115)).out hw7 (by simpa using hnf) (by have := H.out.ob.tz.lt; simp only [List.mem_singleton]; omega)
  have hne7 : w6.heap.size ∉ [w.heap.size] := by have := hZ6.out.lt; simp only [List.mem_singleton]; omega
  have hC7 := (Blk.new w6 #[.bool false, .int .i64 2, .string ⟨x.o.client.toArray⟩, .int .i64 0, .int .i64 0, .string ⟨f.toArray⟩, .string ⟨#[]⟩, .int .i64 q, .bool false, .int .i64 0] 115).wrote hw7 hne7
  refine ⟨w6.heap.size, rfl, ⟨hx7.top, rfl, ⟨?_, fun b hb => .inl hb⟩, World.ownsRow_nil _ _ _ _, ?_, ?_⟩⟩
  ·have hall : Wrote [S.m] w w6 := (Wrote.of_below (hB4.out.trans (hBn.out.mono hs4))).trans hw6
   exact ((hall.trans (Wrote.alloc _ _ _)).andNew hw7 (by simp)).sub (by simp [XLay.foot, XLay.own])
  ·exact ⟨by simp [ChangeV.len], .inr ⟨w6.heap.size, 1, _, rfl, by omega, hC7, by simp, by decide, by simp, by simp [ChangeV.cells, RowV.vals, XS.sub]⟩⟩
  ·intro b hb
   simp [blk, Value.ownBlock] at hb
   subst hb;exact H.out.foot_lt (by omega)
 ·have dne : (q' == q) = false := by simpa using hne
  go_enter Tryz.func29, Tryz.ntmps29
  go_wp2_with (first
   | (go_at_call 60; refine (CN.out _).mono ?_; rintro e w0 ⟨rfl, rfl⟩)
   | (go_at_call 65; refine (CS.out _).mono ?_; rintro e w1 ⟨rfl, hb1⟩)
   | (refine wS 33 9 rfl w1.heap.size _ #[.int .i64 2,.string ⟨x.o.client.toArray⟩,.int .i64 0,.int .i64 0,.string ⟨f.toArray⟩,.string ⟨#[]⟩,.int .i64 q,.bool false,.int .i64 0] rfl rfl (Blk.new w1 _ _) rfl rfl (by simp [Value.oneCell']) ?_; intro w3 hb3 hw3; have hB3 := hid (((HB0.out.trans (hb1.mono (by simp))).alloc (by have := hb1.size; simp at this; omega) _).trans (hw3.below (by have := hb1.size; simp at this ⊢; omega) (by have := hb1.size; simp at this ⊢; omega))); have hx3 := hid (H.out.below hB3.out); have hZ3 := hid ((((Blk.new w didZ 53).below hb1).alloc _).wrote hw3 (by have := hb1.size; simp at this ⊢; omega)); have k6 : w3.cell? ⟨S.p, 6, none⟩ = some (.map (some S.m)) := hx3.out.box.cell 6; have HL := run_lookup_text (P := Tryz.prog) 83 9 3 Tryz.underlying83 Tryz.underlying9 hx3.out.wm (by kernel_rfl) f true; simp only [hlk.out, if_true] at HL)
   | (refine wL 33 rfl rfl hb3 Tryz.underlying33 ?_)
   | (go_at_call 53; refine (CK.out _).mono ?_; rintro e w4 ⟨rfl, hb4⟩; have hB4 := hid (hB3.out.trans (hb4.mono hB3.out.size)); have hx4 := hid (H.out.below hB4.out); have hZ4 := hid (hZ3.out.below hb4); have hR4 := hid (hb3.below hb4))
   )
  have q6 : w4.cell? ⟨S.p, 6, none⟩ = some (.map (some S.m)) := hx4.out.box.cell 6
  have q4 : w4.cell? ⟨S.p, 4, none⟩ = some (.int .i64 x.subs) := hx4.out.box.cell 4
  have HLen := fun n => run_len_text (P := Tryz.prog) 83 9 3 Tryz.underlying83 (hx4.out.wm.below (below_drewN' w4 n)) 3
  go_quiet (fail)
  have hBn := hid (below_drewN' w4 nq)
  have hxn := hid (hx4.out.below hBn.out)
  have q6n : (w4.drewN nq).cell? ⟨S.p, 6, none⟩ = some (.map (some S.m)) := hxn.out.box.cell 6
  go_wp2_with (first
   | (refine wpList_update_text rfl _ _ _ 83 rfl 9 3 Tryz.underlying83 Tryz.underlying9 hxn.out.wm rfl f q rfl rfl ?_; intro w6 hwm6 hg6; have hR6 := hid (Blk.keep (hR4.out.below hBn.out) (hg6.block _ (hR4.out.below hBn.out).lt (fun he => by have h1 := H.out.wm.lt; have h2 := hb1.size; simp only [Option.some.injEq] at he; simp at h2; omega))); have hZ6 := hid (Blk.keep (hZ4.out.below hBn.out) (hg6.block _ (hZ4.out.below hBn.out).lt (fun he => by have h1 := H.out.wm.lt; simp only [Option.some.injEq] at he; omega))))
   | (refine wL 33 rfl rfl hR6.out Tryz.underlying33 ?_)
   | (refine wS 53 2 rfl w.heap.size _ #[.slice none 0 0, .slice (some ⟨w6.heap.size, 0, none⟩) 1 1] rfl rfl (hZ6.out.alloc _) rfl rfl (by simp [Value.oneCell']) ?_; intro w7 hb7 hw7))
  refine bodyPost_ret (results_ct1 Tryz.results29 rfl (run_loadVar_blk hb7 53 Tryz.underlying53 rfl (by kernel_rfl)) rfl) rfl ?_
  have hs4 : w.heap.size <= w4.heap.size := hB4.out.size
  have hsn : w4.heap.size <= (w4.drewN nq).heap.size := hBn.out.size
  have hs6 : (w4.drewN nq).heap.size <= w6.heap.size := hg6.size
  have hw6 : Wrote [S.m] (w4.drewN nq) w6 := Wrote.of_grown hg6 (fun k hk => by cases hk; simp)
  have hx6 := hxn.out.rewant (ins x.wants f q) hw6 hwm6 hil.out
  have hnf : w.heap.size ∉ S.foot := H.out.foot_lt (Nat.le_refl _)
  have hx7 := (hx6.alloc (.cells #[.bool false, .int .i64 2, .string ⟨x.o.client.toArray⟩, .int .i64 0, .int .i64 0, .string ⟨f.toArray⟩, .string ⟨#[]⟩, .int .i64 q, .bool false, .int .i64 0] 115)).out hw7 (by simpa using hnf) (by have := H.out.ob.tz.lt; simp only [List.mem_singleton]; omega)
  have hne7 : w6.heap.size ∉ [w.heap.size] := by have := hZ6.out.lt; simp only [List.mem_singleton]; omega
  have hC7 := (Blk.new w6 #[.bool false, .int .i64 2, .string ⟨x.o.client.toArray⟩, .int .i64 0, .int .i64 0, .string ⟨f.toArray⟩, .string ⟨#[]⟩, .int .i64 q, .bool false, .int .i64 0] 115).wrote hw7 hne7
  refine ⟨w6.heap.size, rfl, ⟨hx7.top, rfl, ⟨?_, fun b hb => .inl hb⟩, World.ownsRow_nil _ _ _ _, ?_, ?_⟩⟩
  ·have hall : Wrote [S.m] w w6 := (Wrote.of_below (hB4.out.trans (hBn.out.mono hs4))).trans hw6
   exact ((hall.trans (Wrote.alloc _ _ _)).andNew hw7 (by simp)).sub (by simp [XLay.foot, XLay.own])
  ·exact ⟨by simp [ChangeV.len], .inr ⟨w6.heap.size, 1, _, rfl, by omega, hC7, by simp, by decide, by simp, by simp [ChangeV.cells, RowV.vals, XS.sub]⟩⟩
  ·intro b hb
   simp [blk, Value.ownBlock] at hb
   subst hb;exact H.out.foot_lt (by omega)
end
section
structure DV where
 vp : Value
 vc : Value
 ps : List PackV
 cs : List ChangeV
def DV.cl (d : DV) : List Value := [d.vp, d.vc]
structure DidsAt (w : World) (base g : Nat) (ds : List DV) : Prop where
 blk : Blk w g (ds.flatMap DV.cl).toArray 53
 packs : ∀ d ∈ ds, w.ownsRow base 81 24 d.vp d.ps.length (d.ps.flatMap PackV.cells)
 chgs : ∀ d ∈ ds, w.ownsRow base 115 10 d.vc d.cs.length (d.cs.flatMap ChangeV.cells)
 len : ∀ d ∈ ds, d.ps.length <= 1000000 /\ d.cs.length <= 1000000
theorem DidsAt.below {w w' : World} {base g : Nat} {ds : List DV} (h : DidsAt w base g ds) (hb : Below w.heap.size w w') : DidsAt w' base g ds :=
 ⟨h.blk.below hb, fun d hd => ownsRow_below (h.packs d hd) hb, fun d hd => ownsRow_below (h.chgs d hd) hb, h.len⟩
structure TSt (n : Nat) (w W : World) (vp vc : Value) (ps : List PackV) (cs : List ChangeV) : Prop where
 below : Below n w W
 out : Blk W (n + 1) #[vp, vc] 53
 res : Blk W n #[.slice none 0 0, .slice none 0 0] 53
 packs : W.ownsRow n 81 24 vp ps.length (ps.flatMap PackV.cells)
 chgs : W.ownsRow n 115 10 vc cs.length (cs.flatMap ChangeV.cells)
theorem flat_len {α β : Type} (f : α -> List β) (M : Nat) : ∀ (l : List α), (∀ x ∈ l, (f x).length <= M) -> (l.flatMap f).length <= l.length * M
 | [], _ => by simp
 | x :: l, h => by
  rw [List.flatMap_cons, List.length_append, List.length_cons, Nat.add_mul, Nat.one_mul]
  have h1 := h x (by simp)
  have h2 := flat_len f M l (fun y hy => h y (by simp [hy]))
  omega
theorem blk_range {α : Type} (f : α -> List Value) {size : Nat} (hf : ∀ x, (f x).length = size) {w : World} {g : Nat} {T : TypeId} {l : List α} (h : Blk w g (l.flatMap f).toArray T) {k : Nat} {x : α} (hx : l[k]? = some x) : w.rangeAt g (k * size) (f x) := fun j v hj => by
 have hjs : j < size := by have := (List.getElem?_eq_some_iff.1 hj).1; rw [hf] at this; exact this
 rw [h.cell (k * size + j), List.getElem?_toArray, flat_get f size hf l k j x hx hjs, hj]
theorem own_one {w : World} {base : Nat} {e : TypeId} {size : Nat} {v : Value} {n : Nat} {xs : List Value} (h : w.ownsRow base e size v n xs) : v.oneCell' = true := by
 obtain ⟨a, c, rfl⟩ := own_slice h
 rfl
theorem own_cells {w : World} {base : Nat} {e : TypeId} {size : Nat} {v : Value} {n : Nat} {xs : List Value} (h : w.ownsRow base e size v n xs) : v.cells = #[v] := by
 obtain ⟨a, c, rfl⟩ := own_slice h
 rfl
theorem DV.cllen (d : DV) : d.cl.length = 2 := rfl
theorem ses_together (base g : Nat) (ds : List DV) (w : World) (h : DidsAt w base g ds) (hl : ds.length <= 10) (hbase : base <= w.heap.size) :
  Calls Tryz.prog 64 #[.slice (some ⟨g, 0, none⟩) ds.length ds.length] w fun e w' => ∃ vp vc, e = .returned (.agg #[vp, vc]) /\ Below w.heap.size w w' /\
   w'.ownsRow w.heap.size 81 24 vp (ds.flatMap DV.ps).length ((ds.flatMap DV.ps).flatMap PackV.cells) /\ w'.ownsRow w.heap.size 115 10 vc (ds.flatMap DV.cs).length ((ds.flatMap DV.cs).flatMap ChangeV.cells) := by
 have H := hid h;clear h;go_enter Tryz.func64, Tryz.ntmps64
 go_wp2
 go_loopw [8] (fun i wr => ∃ (k : Nat) (vp vc : Value), i = .int .i64 k /\ k <= ds.length /\ Hid (TSt w.heap.size w wr vp vc ((ds.take k).flatMap DV.ps) ((ds.take k).flatMap DV.cs))) (fun i _ => ds.length - (intOf i).toNat)
 case atStart => exact ⟨0, _, _, rfl, Nat.zero_le _, hid ⟨((Below.refl _ w).alloc (Nat.le_refl _) _).alloc (by simp) _, Blk.new_at _ _ _ _ (by simp), (Blk.new w _ _).alloc _, World.ownsRow_nil _ _ _ _, World.ownsRow_nil _ _ _ _⟩⟩
 case round =>
  obtain ⟨k, vp, vc, rfl, hk, hst⟩ := hrel
  rcases Nat.lt_or_ge k ds.length with hlt | hge
  ·have dk : decide ((k : Int) < (ds.length : Int)) = true := decide_eq_true (by omega)
   obtain ⟨d, hd⟩ : ∃ d, ds[k]? = some d := ⟨_, List.getElem?_eq_getElem hlt⟩
   have hdm := List.mem_of_getElem? hd
   have hD := hid (H.out.below hst.out.below)
   have hrow : Hid (wr.rangeAt g (k * 2) d.cl) := hid (blk_range DV.cl DV.cllen hD.out.blk hd)
   have hln := hid (H.out.len d hdm)
   have hps : Hid (ds.take (k + 1) = ds.take k ++ [d]) := hid (by rw [List.take_add_one, hd]; rfl)
   have o1 := own_one (hD.out.packs d hdm)
   have o2 := own_one (hD.out.chgs d hdm)
   have hoo : ∀ u ∈ d.cl, u.oneCell' = true := by intro u hu; simp [DV.cl] at hu; rcases hu with rfl | rfl; exact o1; exact o2
   replace hoo := hid hoo;have hzn : Hid (w.heap.size + 1 < wr.heap.size) := hid hst.out.out.lt
   clear o1 o2
   go_wp2_with (first
    | (refine wpList_load_mid rfl 53 _ rfl g (k * 2) rfl d.cl _ hrow.out Tryz.underlying53 rfl (by kernel_rfl) ?_)
    | (refine wS 53 2 rfl wr.heap.size _ #[d.vp, d.vc] rfl rfl (Blk.new wr _ _) rfl rfl hoo.out ?_; intro w2 hb2 hw2))
   have hB2 := hid (((Below.refl _ wr).alloc (Nat.le_refl _) (.cells #[.slice none 0 0, .slice none 0 0] 53)).trans (hw2.below (by simp) (by simp)))
   have hO2 := hid (hst.out.out.below hB2.out)
   refine regionQ [(11, fun w' => w'.cell? ⟨w.heap.size + 1, 0, none⟩ = some vp), (11, fun w' => w'.cell? ⟨w.heap.size + 1, 1, none⟩ = some vc), (1000, fun w' => w'.cell? ⟨wr.heap.size, 0, none⟩ = some d.vp), (1000, fun w' => w'.cell? ⟨wr.heap.size, 1, none⟩ = some d.vc)] (by kernel_rfl) ⟨hO2.out.cell 0, hO2.out.cell 1, hb2.cell 0, hb2.cell 1, trivial⟩ fun KQ hKQ => ?_
   try simp only [PT]
   refine tQ [0, 2, 5, 7] ?_;refine lQ 1 0 ?_;refine lQ 3 2 ?_;refine lQ 6 1 ?_;refine lQ 8 3 ?_;refine sQ 4 fun K hK => ?_;simp only [GO];have hB2d : Hid (Below wr.heap.size wr w2.drew) := hid hB2.out.drew
   have hD2 := hid (hD.out.below hB2d.out)
   have hP2 := hid (ownsRow_below hst.out.packs hB2d.out)
   have hC2 := hid (ownsRow_below hst.out.chgs hB2d.out)
   have hO2 : Hid (Blk w2.drew (w.heap.size + 1) #[vp, vc] 53) := hid hO2.out
   have hI2 : Hid (Blk w2.drew wr.heap.size #[d.vp, d.vc] 53) := hid hb2
   have hZ2 := hid (hst.out.res.below hB2d.out)
   have hbel2 := hid (hst.out.below.trans (hB2d.out.mono hst.out.below.size))
   have hbs : w.heap.size <= w2.drew.heap.size := hbel2.out.size
   have l1 := flat_len DV.ps 1000000 (ds.take k) (fun x hx => (H.out.len x (List.mem_of_mem_take hx)).1)
   have l2 := flat_len DV.cs 1000000 (ds.take k) (fun x hx => (H.out.len x (List.mem_of_mem_take hx)).2)
   have l3 := hln.out.1
   have l4 := hln.out.2
   have l5 : (ds.take k).length <= 10 := by simp; omega
   refine wp_append_rows _ _ rfl ePack (by decide) w.heap.size vp _ _ rfl hP2.out base d.vp _ _ rfl (hD2.out.packs d hdm) (by intro u hu; obtain ⟨p, -, hp⟩ := List.mem_flatMap.1 hu; exact p.one u hp) (by omega) (by omega) hbs fun v5 w5 r5 g5 n5 => ?_
   have hO5 := hid (Blk.keep hO2.out (g5.block _ hO2.out.lt (fun he => block_not_row hO2.out (by decide) hP2.out he)))
   have hI5 := hid (Blk.keep hI2.out (g5.block _ hI2.out.lt (fun he => block_not_row hI2.out (by decide) hP2.out he)))
   have hZ5 := hid (Blk.keep hZ2.out (g5.block _ hZ2.out.lt (fun he => block_not_row hZ2.out (by decide) hP2.out he)))
   have hC5 := hid (ownsRow_grown hC2.out (by decide) hP2.out g5)
   have hS5 := hid (ownsRow_grown (hD2.out.chgs d hdm) (by decide) (ownsRow_mono hP2.out hbase) g5)
   have hbel5 := hid (hbel2.out.grown g5 hbs (fun x hx => (hP2.out.lt x hx).1))
   have hbs5 : w.heap.size <= w5.heap.size := hbel5.out.size
   have r5 := hid r5;clear g5 n5;refine hK _ _ ⟨⟨fun _ => hO5.out.cell 0, fun _ => hO5.out.cell 1, fun _ => hI5.out.cell 0, fun _ => hI5.out.cell 1, trivial⟩, ?_⟩
   clear hK K;try simp only [PT]
   refine tQ [10] ?_;refine sQ 9 fun K hK => ?_;simp only [GO];refine wp_append_rows _ _ rfl eChg (by decide) w.heap.size vc _ _ rfl hC5.out base d.vc _ _ rfl hS5.out (by intro u hu; obtain ⟨p, -, hp⟩ := List.mem_flatMap.1 hu; exact p.one u hp) (by omega) (by omega) hbs5 fun v6 w6 r6 g6 n6 => ?_
   have hO6 := hid (Blk.keep hO5.out (g6.block _ hO5.out.lt (fun he => block_not_row hO5.out (by decide) hC5.out he)))
   have hI6 := hid (Blk.keep hI5.out (g6.block _ hI5.out.lt (fun he => block_not_row hI5.out (by decide) hC5.out he)))
   have hZ6 := hid (Blk.keep hZ5.out (g6.block _ hZ5.out.lt (fun he => block_not_row hZ5.out (by decide) hC5.out he)))
   have hP6 := hid (ownsRow_grown r5.out (by decide) hC5.out g6)
   have hbel6 := hid (hbel5.out.grown g6 hbs5 (fun x hx => (hC5.out.lt x hx).1))
   have r6 := hid r6;clear g6 n6;refine hK _ _ ⟨⟨fun _ => hO6.out.cell 0, fun _ => hO6.out.cell 1, fun _ => hI6.out.cell 0, fun _ => hI6.out.cell 1, trivial⟩, ?_⟩
   clear hK K;try simp only [PT]
   refine sQ 11 fun K hK => ?_;simp only [GO];refine wp_store_cell 35 53 _ _ rfl (fun w => by kernel_rfl) (w.heap.size + 1) 0 _ v5 rfl rfl hO6.out (by simp) (own_cells hP6.out) (own_one hP6.out) fun w7 hO7 hw7 => ?_
   have hI7 := hid (hI6.out.wrote hw7 (by simp only [List.mem_singleton]; have := hzn.out; omega))
   have hO7 := hid hO7;refine hK _ _ ⟨⟨fun h => absurd (show true = false from h) (by decide), fun h => absurd (show true = false from h) (by decide), fun _ => hI7.out.cell 0, fun _ => hI7.out.cell 1, trivial⟩, ?_⟩
   clear hK K;try simp only [PT]
   refine tQ [12] ?_;refine sQ 13 fun K hK => ?_;simp only [GO];refine wp_store_cell 36 53 _ _ rfl (fun w => by kernel_rfl) (w.heap.size + 1) 1 _ v6 rfl rfl hO7.out (by simp) (own_cells r6.out) (own_one r6.out) fun w8 hO8 hw8 => ?_
   have hI8 := hid (hI7.out.wrote hw8 (by simp only [List.mem_singleton]; have := hzn.out; omega))
   have hO8 := hid hO8;refine hK _ _ ⟨⟨fun h => absurd (show true = false from h) (by decide), fun h => absurd (show true = false from h) (by decide), fun _ => hI8.out.cell 0, fun _ => hI8.out.cell 1, trivial⟩, ?_⟩
   clear hK K;try simp only [PT]
   refine dQ (hKQ.out _ _ ?_);clear hKQ KQ;go_wp2
   go_roundw
   case rel =>
    have hw78 := hw7.trans hw8
    have hno : ∀ {e : TypeId} {size n : Nat} {v : Value} {xs : List Value}, w6.ownsRow w.heap.size e size v n xs -> e ≠ 53 -> ∀ x ∈ [w.heap.size + 1], x ∉ YtoinabapaeebfaaGreatDoor.blk v := by
     intro e size n v xs hr he x hx hb
     simp at hx; subst hx
     exact block_not_row hO6.out (Ne.symm he) hr (mem_blk.1 hb).symm
    refine ⟨k + 1, v5, v6, by go_num, by omega, hid ⟨hbel6.out.trans (hw78.below hbel6.out.size (by simp)), hO8.out, hZ6.out.wrote hw78 (by simp), ?_, ?_⟩⟩
    ·rw [hps.out]
     have := not_own hP6.out hw78 (hno hP6.out (by decide))
     simpa using this
    ·rw [hps.out]
     have := not_own r6.out hw78 (hno r6.out (by decide))
     simpa using this
   case measure => simp [intOf]; omega
  ·obtain rfl : k = ds.length := by omega
   have dk : decide ((ds.length : Int) < (ds.length : Int)) = false := by simp
   rw [List.take_length] at hst
   go_wp2_with (first
    | (refine wL 53 rfl rfl hst.out.out Tryz.underlying53 ?_)
    | (refine wS 53 2 rfl w.heap.size _ #[vp, vc] rfl rfl hst.out.res rfl rfl (by simp [own_one hst.out.packs, own_one hst.out.chgs]) ?_; intro w7 hb7 hw7))
   refine bodyPost_ret (results_cell1 Tryz.results64 rfl (run_loadVar_blk hb7 53 Tryz.underlying53 rfl (by kernel_rfl))) rfl ?_
   refine ⟨vp, vc, rfl, hst.out.below.trans (hw7.below hst.out.below.size (by simp)), not_own hst.out.packs hw7 (fun x hx hb => ?_), not_own hst.out.chgs hw7 (fun x hx hb => ?_)⟩
   ·simp at hx; subst hx
    exact block_not_row hst.out.res (by decide) hst.out.packs (mem_blk.1 hb).symm
   ·simp at hx; subst hx
    exact block_not_row hst.out.res (by decide) hst.out.chgs (mem_blk.1 hb).symm
end
end Go.Proofs.YtoinabapaeebfaaGreatDoor
