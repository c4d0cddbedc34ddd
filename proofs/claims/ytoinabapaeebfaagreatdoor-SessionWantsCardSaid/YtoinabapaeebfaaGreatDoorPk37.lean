/- Contracts of package session (part 8): Want. -/
import Derived.Test.YtoinabapaeebfaaGreatDoorPk33
import Derived.Test.YtoinabapaeebfaaGreatDoorPk36
set_option linter.unusedSimpArgs false
set_option linter.unusedVariables false
namespace Go.Proofs.YtoinabapaeebfaaGreatDoor
open Go.RowKit Go.Shelf

/-- What a call of a session leaves and tells. -/
structure SDid (w w' : World) (S S' : XLay) (x' : XS) (vp vc : Value) (ps : List PackV) (cs : List ChangeV) : Prop where
  xb : XB w' w'.heap.size S' x'
  p : S'.p = S.p
  stp : Stp S.foot S'.foot w w'
  packs : w'.ownsRow w.heap.size 81 24 vp ps.length (ps.flatMap PackV.cells)
  chgs : w'.ownsRow w.heap.size 115 10 vc cs.length (cs.flatMap ChangeV.cells)
  free : ∀ b ∈ blk vp ++ blk vc, b ∉ S'.foot

def XS.wantE (x : XS) (f : List UInt8) (q : Int) : Int := if subMay (x.sub f q) = true then (if (look x.wants f).isSome = false ∧ x.subs ≤ x.wants.length then 330 else 0) else 2
def XS.wantC (x : XS) (f : List UInt8) (q : Int) : List ChangeV := if x.wantE f q = 0 ∧ look x.wants f ≠ some q then [⟨false, x.sub f q⟩] else []
def XS.want (x : XS) (f : List UInt8) (q : Int) : XS := if x.wantE f q = 0 ∧ look x.wants f ≠ some q then { x with wants := ins x.wants f q } else x

theorem XB.top {w : World} {B : Nat} {S : XLay} {x : XS} (h : XB w B S x) : XB w w.heap.size S x :=
  ⟨h.box, ob_rebase2 h.ob h.nil, h.nil, h.inb, h.set, h.wm, h.will, h.apart, h.nodup, h.gg, h.ok⟩
theorem XB.foot_lt {w : World} {B : Nat} {S : XLay} {x : XS} (h : XB w B S x) {n : Nat} (hn : w.heap.size ≤ n) : n ∉ S.foot := fun hf => by have := h.lt n hf; omega
theorem sdid_none {w w' : World} {B : Nat} {S : XLay} {x : XS} (h : XB w B S x) (hb : Below w.heap.size w w') : SDid w w' S S x (.slice none 0 0) (.slice none 0 0) [] [] :=
  ⟨(h.below hb).top, rfl, Stp.below hb, World.ownsRow_nil _ _ _ _, World.ownsRow_nil _ _ _ _, by simp [blk, Value.ownBlock]⟩

def didZ : Array Value := #[.slice none 0 0, .slice none 0 0]
set_option maxRecDepth 100000 in
set_option maxHeartbeats 800000 in
theorem ses_Want_bad {w : World} {B : Nat} {S : XLay} {x : XS} (h : XB w B S x) (f : List UInt8) (q : Int) (hf : f.length ≤ 1000000) (hm : subMay (x.sub f q) = false) :
    Calls Tryz.prog 29 #[.pointer (some ⟨S.p, 0, none⟩), .string ⟨f.toArray⟩, .int .i64 q] w fun e w' => e = .returned (.tuple #[.agg didZ, .int .i64 2]) ∧ Below w.heap.size w w' := by
  have CN := hid fun o => ses_none (h.alloc o)
  have CS := fun o => ses_sub (h.alloc o) f q
  have hcl := h.ob.ok.cl
  have CK := fun W => rec_Check_sub x.o.client f q W (by omega) hf
  rw [show subMay ⟨2, x.o.client, 0, 0, f, [], q, false, 0⟩ = false from hm] at CK
  unfold XS.sub RowV.vals at CS
  unfold RowV.vals at CK
  replace CS := hid CS
  replace CK := hid CK
  have H := hid h
  have HB0 := hid ((Below.refl w.heap.size w).alloc (Nat.le_refl _) (.cells didZ 53))
  obtain ⟨ol, hlk0⟩ : ∃ ol, look x.wants f = ol := ⟨_, rfl⟩
  have hlk := hid hlk0
  clear h hm hlk0 hcl hf
  go_enter Tryz.func29, Tryz.ntmps29
  go_wp2_with (first
    | (go_at_call 60; refine (CN.out _).mono ?_; rintro e w0 ⟨rfl, rfl⟩)
    | (go_at_call 65; refine (CS.out _).mono ?_; rintro e w1 ⟨rfl, hb1⟩)
    | (refine wpList_store_blk rfl 33 33 _ _ rfl 9 (fun w => by kernel_rfl) w1.heap.size _ #[.int .i64 2,.string ⟨x.o.client.toArray⟩,.int .i64 0,.int .i64 0,.string ⟨f.toArray⟩,.string ⟨#[]⟩,.int .i64 q,.bool false,.int .i64 0] rfl rfl (Blk.new w1 _ _) rfl rfl (by simp [Value.oneCell']) ?_; intro w3 hb3 hw3; have hB3 := hid (((HB0.out.trans (hb1.mono (by simp))).alloc (by have := hb1.size; simp at this; omega) _).trans (hw3.below (by have := hb1.size; simp at this ⊢; omega) (by have := hb1.size; simp at this ⊢; omega))); have hx3 := hid (H.out.below hB3.out); have hZ3 := hid ((((Blk.new w didZ 53).below hb1).alloc _).wrote hw3 (by have := hb1.size; simp at this ⊢; omega)); have k6 : w3.cell? ⟨S.p, 6, none⟩ = some (.map (some S.m)) := hx3.out.box.cell 6; have HL := run_lookup_text (P := Tryz.prog) 83 9 3 Tryz.underlying83 Tryz.underlying9 hx3.out.wm (by kernel_rfl) f true; simp only [hlk.out, if_true] at HL)
    | (refine wpList_load_blk rfl 33 _ rfl w1.heap.size #[.int .i64 2,.string ⟨x.o.client.toArray⟩,.int .i64 0,.int .i64 0,.string ⟨f.toArray⟩,.string ⟨#[]⟩,.int .i64 q,.bool false,.int .i64 0] rfl hb3 Tryz.underlying33 rfl (by kernel_rfl) ?_)
    | (go_at_call 53; refine (CK.out _).mono ?_; rintro e w4 ⟨rfl, hb4⟩; have hB4 := hid (hB3.out.trans (hb4.mono hB3.out.size)); have hx4 := hid (H.out.below hB4.out); have hZ4 := hid (hZ3.out.below hb4); have hR4 := hid (hb3.below hb4))
    | (refine wpList_store_blk rfl 53 53 _ _ rfl 2 (fun w => by kernel_rfl) w.heap.size _ didZ rfl rfl hZ4.out rfl rfl (by simp [didZ,Value.oneCell']) ?_; intro w5 hb5 hw5))
  refine bodyPost_ret (results_ct1 Tryz.results29 rfl (run_loadVar_blk hb5 53 Tryz.underlying53 rfl (by kernel_rfl)) rfl) rfl ?_
  exact ⟨rfl, hB4.out.trans (hw5.below hB4.out.size (by simp))⟩

set_option maxRecDepth 100000 in
set_option maxHeartbeats 1000000 in
theorem ses_Want_full {w : World} {B : Nat} {S : XLay} {x : XS} (h : XB w B S x) (f : List UInt8) (q : Int) (hf : f.length ≤ 1000000) (hm : subMay (x.sub f q) = true) (hlk0 : look x.wants f = none) (hfull : x.subs ≤ x.wants.length) :
    Calls Tryz.prog 29 #[.pointer (some ⟨S.p, 0, none⟩), .string ⟨f.toArray⟩, .int .i64 q] w fun e w' => e = .returned (.tuple #[.agg didZ, .int .i64 330]) ∧ Below w.heap.size w w' := by
  have CN := hid fun o => ses_none (h.alloc o)
  have CS := fun o => ses_sub (h.alloc o) f q
  have hcl := h.ob.ok.cl
  have CK := fun W => rec_Check_sub x.o.client f q W (by omega) hf
  rw [show subMay ⟨2, x.o.client, 0, 0, f, [], q, false, 0⟩ = true from hm] at CK
  unfold XS.sub RowV.vals at CS
  unfold RowV.vals at CK
  replace CS := hid CS
  replace CK := hid CK
  have H := hid h
  have HB0 := hid ((Below.refl w.heap.size w).alloc (Nat.le_refl _) (.cells didZ 53))
  have hlk := hid hlk0
  clear h hm hlk0 hcl hf
  have dfull : decide (x.subs ≤ (x.wants.length : Int)) = true := decide_eq_true hfull
  go_enter Tryz.func29, Tryz.ntmps29
  go_wp2_with (first
    | (go_at_call 60; refine (CN.out _).mono ?_; rintro e w0 ⟨rfl, rfl⟩)
    | (go_at_call 65; refine (CS.out _).mono ?_; rintro e w1 ⟨rfl, hb1⟩)
    | (refine wpList_store_blk rfl 33 33 _ _ rfl 9 (fun w => by kernel_rfl) w1.heap.size _ #[.int .i64 2,.string ⟨x.o.client.toArray⟩,.int .i64 0,.int .i64 0,.string ⟨f.toArray⟩,.string ⟨#[]⟩,.int .i64 q,.bool false,.int .i64 0] rfl rfl (Blk.new w1 _ _) rfl rfl (by simp [Value.oneCell']) ?_; intro w3 hb3 hw3; have hB3 := hid (((HB0.out.trans (hb1.mono (by simp))).alloc (by have := hb1.size; simp at this; omega) _).trans (hw3.below (by have := hb1.size; simp at this ⊢; omega) (by have := hb1.size; simp at this ⊢; omega))); have hx3 := hid (H.out.below hB3.out); have hZ3 := hid ((((Blk.new w didZ 53).below hb1).alloc _).wrote hw3 (by have := hb1.size; simp at this ⊢; omega)); have k6 : w3.cell? ⟨S.p, 6, none⟩ = some (.map (some S.m)) := hx3.out.box.cell 6; have HL := run_lookup_text (P := Tryz.prog) 83 9 3 Tryz.underlying83 Tryz.underlying9 hx3.out.wm (by kernel_rfl) f true; simp only [hlk.out, if_true] at HL)
    | (refine wpList_load_blk rfl 33 _ rfl w1.heap.size #[.int .i64 2,.string ⟨x.o.client.toArray⟩,.int .i64 0,.int .i64 0,.string ⟨f.toArray⟩,.string ⟨#[]⟩,.int .i64 q,.bool false,.int .i64 0] rfl hb3 Tryz.underlying33 rfl (by kernel_rfl) ?_)
    | (go_at_call 53; refine (CK.out _).mono ?_; rintro e w4 ⟨rfl, hb4⟩; have hB4 := hid (hB3.out.trans (hb4.mono hB3.out.size)); have hx4 := hid (H.out.below hB4.out); have hZ4 := hid (hZ3.out.below hb4); have hR4 := hid (hb3.below hb4))
    )
  have q6 : w4.cell? ⟨S.p, 6, none⟩ = some (.map (some S.m)) := hx4.out.box.cell 6
  have q4 : w4.cell? ⟨S.p, 4, none⟩ = some (.int .i64 x.subs) := hx4.out.box.cell 4
  have HLen := fun n => run_len_text (P := Tryz.prog) 83 9 3 Tryz.underlying83 (hx4.out.wm.below (below_drewN' w4 n)) 3
  go_quiet (fail)
  go_wp2_with (refine wpList_store_blk rfl 53 53 _ _ rfl 2 (fun w => by kernel_rfl) w.heap.size _ didZ rfl rfl (hZ4.out.below (below_drewN' w4 nq)) rfl rfl (by simp [didZ, Value.oneCell']) ?_; intro w5 hb5 hw5)
  refine bodyPost_ret (results_ct1 Tryz.results29 rfl (run_loadVar_blk hb5 53 Tryz.underlying53 rfl (by kernel_rfl)) rfl) rfl ?_
  exact ⟨rfl, (hB4.out.trans ((below_drewN' w4 nq).mono hB4.out.size)).trans (hw5.below (by have := hB4.out.size; simp; exact this) (by simp))⟩

set_option maxRecDepth 100000 in
set_option maxHeartbeats 1000000 in
theorem ses_Want_same {w : World} {B : Nat} {S : XLay} {x : XS} (h : XB w B S x) (f : List UInt8) (q : Int) (hf : f.length ≤ 1000000) (hm : subMay (x.sub f q) = true) (hlk0 : look x.wants f = some q) :
    Calls Tryz.prog 29 #[.pointer (some ⟨S.p, 0, none⟩), .string ⟨f.toArray⟩, .int .i64 q] w fun e w' => e = .returned (.tuple #[.agg didZ, .int .i64 0]) ∧ Below w.heap.size w w' := by
  have CN := hid fun o => ses_none (h.alloc o)
  have CS := fun o => ses_sub (h.alloc o) f q
  have hcl := h.ob.ok.cl
  have CK := fun W => rec_Check_sub x.o.client f q W (by omega) hf
  rw [show subMay ⟨2, x.o.client, 0, 0, f, [], q, false, 0⟩ = true from hm] at CK
  unfold XS.sub RowV.vals at CS
  unfold RowV.vals at CK
  replace CS := hid CS
  replace CK := hid CK
  have H := hid h
  have HB0 := hid ((Below.refl w.heap.size w).alloc (Nat.le_refl _) (.cells didZ 53))
  have hlk := hid hlk0
  clear h hm hlk0 hcl hf
  go_enter Tryz.func29, Tryz.ntmps29
  go_wp2_with (first
    | (go_at_call 60; refine (CN.out _).mono ?_; rintro e w0 ⟨rfl, rfl⟩)
    | (go_at_call 65; refine (CS.out _).mono ?_; rintro e w1 ⟨rfl, hb1⟩)
    | (refine wpList_store_blk rfl 33 33 _ _ rfl 9 (fun w => by kernel_rfl) w1.heap.size _ #[.int .i64 2,.string ⟨x.o.client.toArray⟩,.int .i64 0,.int .i64 0,.string ⟨f.toArray⟩,.string ⟨#[]⟩,.int .i64 q,.bool false,.int .i64 0] rfl rfl (Blk.new w1 _ _) rfl rfl (by simp [Value.oneCell']) ?_; intro w3 hb3 hw3; have hB3 := hid (((HB0.out.trans (hb1.mono (by simp))).alloc (by have := hb1.size; simp at this; omega) _).trans (hw3.below (by have := hb1.size; simp at this ⊢; omega) (by have := hb1.size; simp at this ⊢; omega))); have hx3 := hid (H.out.below hB3.out); have hZ3 := hid ((((Blk.new w didZ 53).below hb1).alloc _).wrote hw3 (by have := hb1.size; simp at this ⊢; omega)); have k6 : w3.cell? ⟨S.p, 6, none⟩ = some (.map (some S.m)) := hx3.out.box.cell 6; have HL := run_lookup_text (P := Tryz.prog) 83 9 3 Tryz.underlying83 Tryz.underlying9 hx3.out.wm (by kernel_rfl) f true; simp only [hlk.out, if_true] at HL)
    | (refine wpList_load_blk rfl 33 _ rfl w1.heap.size #[.int .i64 2,.string ⟨x.o.client.toArray⟩,.int .i64 0,.int .i64 0,.string ⟨f.toArray⟩,.string ⟨#[]⟩,.int .i64 q,.bool false,.int .i64 0] rfl hb3 Tryz.underlying33 rfl (by kernel_rfl) ?_)
    | (go_at_call 53; refine (CK.out _).mono ?_; rintro e w4 ⟨rfl, hb4⟩; have hB4 := hid (hB3.out.trans (hb4.mono hB3.out.size)); have hx4 := hid (H.out.below hB4.out); have hZ4 := hid (hZ3.out.below hb4); have hR4 := hid (hb3.below hb4))
    )
  have q6 : w4.cell? ⟨S.p, 6, none⟩ = some (.map (some S.m)) := hx4.out.box.cell 6
  have q4 : w4.cell? ⟨S.p, 4, none⟩ = some (.int .i64 x.subs) := hx4.out.box.cell 4
  have HLen := fun n => run_len_text (P := Tryz.prog) 83 9 3 Tryz.underlying83 (hx4.out.wm.below (below_drewN' w4 n)) 3
  go_quiet (fail)
  go_wp2_with (refine wpList_store_blk rfl 53 53 _ _ rfl 2 (fun w => by kernel_rfl) w.heap.size _ didZ rfl rfl (hZ4.out.below (below_drewN' w4 nq)) rfl rfl (by simp [didZ, Value.oneCell']) ?_; intro w5 hb5 hw5)
  refine bodyPost_ret (results_ct1 Tryz.results29 rfl (run_loadVar_blk hb5 53 Tryz.underlying53 rfl (by kernel_rfl)) rfl) rfl ?_
  exact ⟨rfl, (hB4.out.trans ((below_drewN' w4 nq).mono hB4.out.size)).trans (hw5.below (by have := hB4.out.size; simp; exact this) (by simp))⟩

theorem wpList_update_text {P : Program} {w : World} {ops : Array Oper} {rest : List Oper} {o : Oper} {a : Act} {Q : Exit → Act → World → Prop}
    (hg : o.guard = none) (m x v : Operand) (t : TypeId) (hop : o.op = Op.mapUpdate t m x v) (k e : TypeId) (ht : P.underlying t = some (.map k e)) (hk : P.underlying k = some .string) {b : Nat} {l : WL} (h : WM w b l)
    (hm : a.eval m = .map (some b)) (s : List UInt8) (val : Int) (hx : a.eval x = .string ⟨s.toArray⟩) (hv : a.eval v = .int .i64 val)
    (hK : ∀ w', WM w' b (ins l s val) → w.grownBy w' (some b) → wpList P ops Q rest (a.put o.dst undef) w') :
    wpList P ops Q (o :: rest) a w := by
  refine wpList_plain hg fun K' hK' => ?_
  obtain ⟨w', hrun, h1, h2⟩ := run_insert_text t k e ht hk h s val
  unfold Oper.wp
  simp [execOp, hop, hm, hx, hv, hrun, Result.andThen]
  exact hK' _ _ (hK _ h1 h2)
theorem ins_len (l : WL) (k : List UInt8) (v : Int) : (ins l k v).length = if (look l k).isSome then l.length else l.length + 1 := by
  unfold ins
  split <;> simp
/-- Other filters. -/
theorem XB.rewant {w w' : World} {B : Nat} {S : XLay} {x : XS} (h : XB w B S x) (l : WL) (hw : Wrote [S.m] w w') (hm : WM w' S.m l) (hl : (l.length : Int) ≤ x.subs) : XB w' B S { x with wants := l } := by
  have nd := h.nodup
  have hgg := h.gg
  simp only [XLay.own, List.nodup_cons, List.mem_cons, not_or] at nd hgg
  have ho : S.m ∉ S.o.foot := h.apart _ (by simp [XLay.own])
  refine ⟨h.box.wrote hw (by simp only [List.mem_singleton]; exact nd.1.2.2.1), h.ob.out hw (by simpa using ho) (by simp only [List.mem_singleton]; exact hgg.2.2.2.1), h.nil, h.inb.wrote hw (by simp only [List.mem_singleton]; exact nd.2.1.2.1) (by simp only [List.mem_singleton]; exact nd.2.2.1.1), h.set, hm, h.will.keep (fun b hb => hw.block b (h.will.lt b hb) (by simp only [List.mem_singleton]; rintro rfl; exact nd.2.2.2.1 hb)), h.apart, h.nodup, h.gg, ⟨h.ok.most, h.ok.subs, h.ok.ids, h.ok.under, hl, h.ok.keep⟩⟩

set_option maxRecDepth 100000 in
set_option maxHeartbeats 1000000 in
theorem ses_Want_put {w : World} {B : Nat} {S : XLay} {x : XS} (h : XB w B S x) (f : List UInt8) (q : Int) (hf : f.length ≤ 1000000) (hm : subMay (x.sub f q) = true) (ol : Option Int) (hlk0 : look x.wants f = ol)
    (hol : (ol = none ∧ (x.wants.length : Int) < x.subs) ∨ ∃ q', ol = some q' ∧ q' ≠ q) :
    Calls Tryz.prog 29 #[.pointer (some ⟨S.p, 0, none⟩), .string ⟨f.toArray⟩, .int .i64 q] w fun e w' => ∃ g, e = .returned (.tuple #[.agg #[.slice none 0 0, .slice (some ⟨g, 0, none⟩) 1 1], .int .i64 0]) ∧
      SDid w w' S S { x with wants := ins x.wants f q } (.slice none 0 0) (.slice (some ⟨g, 0, none⟩) 1 1) [] [⟨false, x.sub f q⟩] := by
  have hil : ((ins x.wants f q).length : Int) ≤ x.subs := by
    have hw := h.ok.wants
    rw [ins_len]
    rcases hol with ⟨rfl, h1⟩ | ⟨q', rfl, h1⟩
    · rw [hlk0]; simp; omega
    · rw [hlk0]; simp; exact hw
  have hil := hid hil
  have CN := hid fun o => ses_none (h.alloc o)
  have CS := fun o => ses_sub (h.alloc o) f q
  have hcl := h.ob.ok.cl
  have CK := fun W => rec_Check_sub x.o.client f q W (by omega) hf
  rw [show subMay ⟨2, x.o.client, 0, 0, f, [], q, false, 0⟩ = true from hm] at CK
  unfold XS.sub RowV.vals at CS
  unfold RowV.vals at CK
  replace CS := hid CS
  replace CK := hid CK
  have H := hid h
  have HB0 := hid ((Below.refl w.heap.size w).alloc (Nat.le_refl _) (.cells didZ 53))
  have hlk := hid hlk0
  clear h hm hlk0 hcl hf
  rcases hol with ⟨rfl, hroom⟩ | ⟨q', rfl, hne⟩
  · have dfull : decide (x.subs ≤ (x.wants.length : Int)) = false := decide_eq_false (by omega)
    go_enter Tryz.func29, Tryz.ntmps29
    go_wp2_with (first
      | (go_at_call 60; refine (CN.out _).mono ?_; rintro e w0 ⟨rfl, rfl⟩)
      | (go_at_call 65; refine (CS.out _).mono ?_; rintro e w1 ⟨rfl, hb1⟩)
      | (refine wpList_store_blk rfl 33 33 _ _ rfl 9 (fun w => by kernel_rfl) w1.heap.size _ #[.int .i64 2,.string ⟨x.o.client.toArray⟩,.int .i64 0,.int .i64 0,.string ⟨f.toArray⟩,.string ⟨#[]⟩,.int .i64 q,.bool false,.int .i64 0] rfl rfl (Blk.new w1 _ _) rfl rfl (by simp [Value.oneCell']) ?_; intro w3 hb3 hw3; have hB3 := hid (((HB0.out.trans (hb1.mono (by simp))).alloc (by have := hb1.size; simp at this; omega) _).trans (hw3.below (by have := hb1.size; simp at this ⊢; omega) (by have := hb1.size; simp at this ⊢; omega))); have hx3 := hid (H.out.below hB3.out); have hZ3 := hid ((((Blk.new w didZ 53).below hb1).alloc _).wrote hw3 (by have := hb1.size; simp at this ⊢; omega)); have k6 : w3.cell? ⟨S.p, 6, none⟩ = some (.map (some S.m)) := hx3.out.box.cell 6; have HL := run_lookup_text (P := Tryz.prog) 83 9 3 Tryz.underlying83 Tryz.underlying9 hx3.out.wm (by kernel_rfl) f true; simp only [hlk.out, if_true] at HL)
      | (refine wpList_load_blk rfl 33 _ rfl w1.heap.size #[.int .i64 2,.string ⟨x.o.client.toArray⟩,.int .i64 0,.int .i64 0,.string ⟨f.toArray⟩,.string ⟨#[]⟩,.int .i64 q,.bool false,.int .i64 0] rfl hb3 Tryz.underlying33 rfl (by kernel_rfl) ?_)
      | (go_at_call 53; refine (CK.out _).mono ?_; rintro e w4 ⟨rfl, hb4⟩; have hB4 := hid (hB3.out.trans (hb4.mono hB3.out.size)); have hx4 := hid (H.out.below hB4.out); have hZ4 := hid (hZ3.out.below hb4); have hR4 := hid (hb3.below hb4))
      )
    have q6 : w4.cell? ⟨S.p, 6, none⟩ = some (.map (some S.m)) := hx4.out.box.cell 6
    have q4 : w4.cell? ⟨S.p, 4, none⟩ = some (.int .i64 x.subs) := hx4.out.box.cell 4
    have HLen := fun n => run_len_text (P := Tryz.prog) 83 9 3 Tryz.underlying83 (hx4.out.wm.below (below_drewN' w4 n)) 3
    go_quiet (fail)
    have hBn := hid (below_drewN' w4 nq)
    have hxn := hid (hx4.out.below hBn.out)
    have q6n : (w4.drewN nq).cell? ⟨S.p, 6, none⟩ = some (.map (some S.m)) := hxn.out.box.cell 6
    go_wp2_with (first
      | (refine wpList_update_text rfl _ _ _ 83 rfl 9 3 Tryz.underlying83 Tryz.underlying9 hxn.out.wm rfl f q rfl rfl ?_; intro w6 hwm6 hg6; have hR6 := hid (Blk.keep (hR4.out.below hBn.out) (hg6.block _ (hR4.out.below hBn.out).lt (fun he => by have h1 := H.out.wm.lt; have h2 := hb1.size; simp only [Option.some.injEq] at he; simp at h2; omega))); have hZ6 := hid (Blk.keep (hZ4.out.below hBn.out) (hg6.block _ (hZ4.out.below hBn.out).lt (fun he => by have h1 := H.out.wm.lt; simp only [Option.some.injEq] at he; omega))))
      | (refine wpList_load_blk rfl 33 _ rfl w1.heap.size #[.int .i64 2,.string ⟨x.o.client.toArray⟩,.int .i64 0,.int .i64 0,.string ⟨f.toArray⟩,.string ⟨#[]⟩,.int .i64 q,.bool false,.int .i64 0] rfl hR6.out Tryz.underlying33 rfl (by kernel_rfl) ?_)
      | (refine wpList_store_blk rfl 53 53 _ _ rfl 2 (fun w => by kernel_rfl) w.heap.size _ #[.slice none 0 0, .slice (some ⟨w6.heap.size, 0, none⟩) 1 1] rfl rfl (hZ6.out.alloc _) rfl rfl (by simp [Value.oneCell']) ?_; intro w7 hb7 hw7))
    refine bodyPost_ret (results_ct1 Tryz.results29 rfl (run_loadVar_blk hb7 53 Tryz.underlying53 rfl (by kernel_rfl)) rfl) rfl ?_
    have hs4 : w.heap.size ≤ w4.heap.size := hB4.out.size
    have hsn : w4.heap.size ≤ (w4.drewN nq).heap.size := hBn.out.size
    have hs6 : (w4.drewN nq).heap.size ≤ w6.heap.size := hg6.size
    have hw6 : Wrote [S.m] (w4.drewN nq) w6 := Wrote.of_grown hg6 (fun k hk => by cases hk; simp)
    have hx6 := hxn.out.rewant (ins x.wants f q) hw6 hwm6 hil.out
    have hnf : w.heap.size ∉ S.foot := H.out.foot_lt (Nat.le_refl _)
    have hx7 := (hx6.alloc (.cells #[.bool false, .int .i64 2, .string ⟨x.o.client.toArray⟩, .int .i64 0, .int .i64 0, .string ⟨f.toArray⟩, .string ⟨#[]⟩, .int .i64 q, .bool false, .int .i64 0] 115)).out hw7 (by simpa using hnf) (by have := H.out.ob.tz.lt; simp only [List.mem_singleton]; omega)
    have hne7 : w6.heap.size ∉ [w.heap.size] := by have := hZ6.out.lt; simp only [List.mem_singleton]; omega
    have hC7 := (Blk.new w6 #[.bool false, .int .i64 2, .string ⟨x.o.client.toArray⟩, .int .i64 0, .int .i64 0, .string ⟨f.toArray⟩, .string ⟨#[]⟩, .int .i64 q, .bool false, .int .i64 0] 115).wrote hw7 hne7
    refine ⟨w6.heap.size, rfl, ⟨hx7.top, rfl, ⟨?_, fun b hb => .inl hb⟩, World.ownsRow_nil _ _ _ _, ?_, ?_⟩⟩
    · have hall : Wrote [S.m] w w6 := (Wrote.of_below (hB4.out.trans (hBn.out.mono hs4))).trans hw6
      exact ((hall.trans (Wrote.alloc _ _ _)).andNew hw7 (by simp)).sub (by simp [XLay.foot, XLay.own])
    · exact ⟨by simp [ChangeV.len], .inr ⟨w6.heap.size, 1, _, rfl, by omega, hC7, by simp, by decide, by simp, by simp [ChangeV.cells, RowV.vals, XS.sub]⟩⟩
    · intro b hb
      simp [blk, Value.ownBlock] at hb
      subst hb
      exact H.out.foot_lt (by omega)
  · have dne : (q' == q) = false := by simpa using hne
    go_enter Tryz.func29, Tryz.ntmps29
    go_wp2_with (first
      | (go_at_call 60; refine (CN.out _).mono ?_; rintro e w0 ⟨rfl, rfl⟩)
      | (go_at_call 65; refine (CS.out _).mono ?_; rintro e w1 ⟨rfl, hb1⟩)
      | (refine wpList_store_blk rfl 33 33 _ _ rfl 9 (fun w => by kernel_rfl) w1.heap.size _ #[.int .i64 2,.string ⟨x.o.client.toArray⟩,.int .i64 0,.int .i64 0,.string ⟨f.toArray⟩,.string ⟨#[]⟩,.int .i64 q,.bool false,.int .i64 0] rfl rfl (Blk.new w1 _ _) rfl rfl (by simp [Value.oneCell']) ?_; intro w3 hb3 hw3; have hB3 := hid (((HB0.out.trans (hb1.mono (by simp))).alloc (by have := hb1.size; simp at this; omega) _).trans (hw3.below (by have := hb1.size; simp at this ⊢; omega) (by have := hb1.size; simp at this ⊢; omega))); have hx3 := hid (H.out.below hB3.out); have hZ3 := hid ((((Blk.new w didZ 53).below hb1).alloc _).wrote hw3 (by have := hb1.size; simp at this ⊢; omega)); have k6 : w3.cell? ⟨S.p, 6, none⟩ = some (.map (some S.m)) := hx3.out.box.cell 6; have HL := run_lookup_text (P := Tryz.prog) 83 9 3 Tryz.underlying83 Tryz.underlying9 hx3.out.wm (by kernel_rfl) f true; simp only [hlk.out, if_true] at HL)
      | (refine wpList_load_blk rfl 33 _ rfl w1.heap.size #[.int .i64 2,.string ⟨x.o.client.toArray⟩,.int .i64 0,.int .i64 0,.string ⟨f.toArray⟩,.string ⟨#[]⟩,.int .i64 q,.bool false,.int .i64 0] rfl hb3 Tryz.underlying33 rfl (by kernel_rfl) ?_)
      | (go_at_call 53; refine (CK.out _).mono ?_; rintro e w4 ⟨rfl, hb4⟩; have hB4 := hid (hB3.out.trans (hb4.mono hB3.out.size)); have hx4 := hid (H.out.below hB4.out); have hZ4 := hid (hZ3.out.below hb4); have hR4 := hid (hb3.below hb4))
      )
    have q6 : w4.cell? ⟨S.p, 6, none⟩ = some (.map (some S.m)) := hx4.out.box.cell 6
    have q4 : w4.cell? ⟨S.p, 4, none⟩ = some (.int .i64 x.subs) := hx4.out.box.cell 4
    have HLen := fun n => run_len_text (P := Tryz.prog) 83 9 3 Tryz.underlying83 (hx4.out.wm.below (below_drewN' w4 n)) 3
    go_quiet (fail)
    have hBn := hid (below_drewN' w4 nq)
    have hxn := hid (hx4.out.below hBn.out)
    have q6n : (w4.drewN nq).cell? ⟨S.p, 6, none⟩ = some (.map (some S.m)) := hxn.out.box.cell 6
    go_wp2_with (first
      | (refine wpList_update_text rfl _ _ _ 83 rfl 9 3 Tryz.underlying83 Tryz.underlying9 hxn.out.wm rfl f q rfl rfl ?_; intro w6 hwm6 hg6; have hR6 := hid (Blk.keep (hR4.out.below hBn.out) (hg6.block _ (hR4.out.below hBn.out).lt (fun he => by have h1 := H.out.wm.lt; have h2 := hb1.size; simp only [Option.some.injEq] at he; simp at h2; omega))); have hZ6 := hid (Blk.keep (hZ4.out.below hBn.out) (hg6.block _ (hZ4.out.below hBn.out).lt (fun he => by have h1 := H.out.wm.lt; simp only [Option.some.injEq] at he; omega))))
      | (refine wpList_load_blk rfl 33 _ rfl w1.heap.size #[.int .i64 2,.string ⟨x.o.client.toArray⟩,.int .i64 0,.int .i64 0,.string ⟨f.toArray⟩,.string ⟨#[]⟩,.int .i64 q,.bool false,.int .i64 0] rfl hR6.out Tryz.underlying33 rfl (by kernel_rfl) ?_)
      | (refine wpList_store_blk rfl 53 53 _ _ rfl 2 (fun w => by kernel_rfl) w.heap.size _ #[.slice none 0 0, .slice (some ⟨w6.heap.size, 0, none⟩) 1 1] rfl rfl (hZ6.out.alloc _) rfl rfl (by simp [Value.oneCell']) ?_; intro w7 hb7 hw7))
    refine bodyPost_ret (results_ct1 Tryz.results29 rfl (run_loadVar_blk hb7 53 Tryz.underlying53 rfl (by kernel_rfl)) rfl) rfl ?_
    have hs4 : w.heap.size ≤ w4.heap.size := hB4.out.size
    have hsn : w4.heap.size ≤ (w4.drewN nq).heap.size := hBn.out.size
    have hs6 : (w4.drewN nq).heap.size ≤ w6.heap.size := hg6.size
    have hw6 : Wrote [S.m] (w4.drewN nq) w6 := Wrote.of_grown hg6 (fun k hk => by cases hk; simp)
    have hx6 := hxn.out.rewant (ins x.wants f q) hw6 hwm6 hil.out
    have hnf : w.heap.size ∉ S.foot := H.out.foot_lt (Nat.le_refl _)
    have hx7 := (hx6.alloc (.cells #[.bool false, .int .i64 2, .string ⟨x.o.client.toArray⟩, .int .i64 0, .int .i64 0, .string ⟨f.toArray⟩, .string ⟨#[]⟩, .int .i64 q, .bool false, .int .i64 0] 115)).out hw7 (by simpa using hnf) (by have := H.out.ob.tz.lt; simp only [List.mem_singleton]; omega)
    have hne7 : w6.heap.size ∉ [w.heap.size] := by have := hZ6.out.lt; simp only [List.mem_singleton]; omega
    have hC7 := (Blk.new w6 #[.bool false, .int .i64 2, .string ⟨x.o.client.toArray⟩, .int .i64 0, .int .i64 0, .string ⟨f.toArray⟩, .string ⟨#[]⟩, .int .i64 q, .bool false, .int .i64 0] 115).wrote hw7 hne7
    refine ⟨w6.heap.size, rfl, ⟨hx7.top, rfl, ⟨?_, fun b hb => .inl hb⟩, World.ownsRow_nil _ _ _ _, ?_, ?_⟩⟩
    · have hall : Wrote [S.m] w w6 := (Wrote.of_below (hB4.out.trans (hBn.out.mono hs4))).trans hw6
      exact ((hall.trans (Wrote.alloc _ _ _)).andNew hw7 (by simp)).sub (by simp [XLay.foot, XLay.own])
    · exact ⟨by simp [ChangeV.len], .inr ⟨w6.heap.size, 1, _, rfl, by omega, hC7, by simp, by decide, by simp, by simp [ChangeV.cells, RowV.vals, XS.sub]⟩⟩
    · intro b hb
      simp [blk, Value.ownBlock] at hb
      subst hb
      exact H.out.foot_lt (by omega)
end Go.Proofs.YtoinabapaeebfaaGreatDoor
