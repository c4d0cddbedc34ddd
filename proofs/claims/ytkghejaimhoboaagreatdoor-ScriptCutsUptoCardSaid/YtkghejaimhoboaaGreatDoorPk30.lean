/- Parts of the proof of ScriptCuts: contracts of functions that it reaches, and plain lemmas. No condition of their own. -/
import Derived.Test.YtkghejaimhoboaaGreatDoorPk29
import Derived.Test.YtkghejaimhoboaaGreatDoorPk25
import Derived.Test.YtkghejaimhoboaaGreatDoorPk27
import Derived.Test.YtkghejaimhoboaaGreatDoorPk05
set_option linter.unusedSimpArgs false
set_option linter.unusedVariables false
set_option maxRecDepth 100000
set_option maxHeartbeats 8000000
namespace Go.Proofs.YtkghejaimhoboaaGreatDoor
open Go.RowKit Go.Shelf
section
attribute [local go_sem] Oper.semAt_some
def connB (z : Int) : Bool := decide (0 <= z) && decide (z <= 65535)
theorem sc_may10 (x : TnC) (c : Nat) (W : World) (hc : Boxed W c 66 (fnV 45 #[])) : Calls Tryz.prog 58 #[.agg x.cells.toArray, .pointer (some ⟨c, 0, none⟩)] W (AnyP (connB x.t.conn && decide (x.t.bytes.length <= 10000)) W) := by
 obtain ⟨xc, hxc⟩ : ∃ xc, x.cells.toArray = xc := ⟨_, rfl⟩
 have hB : Blk (W.alloc (.cells xc 55)) W.heap.size xc 55 := Blk.new _ _ _
 have hb : Below W.heap.size W (W.alloc (.cells xc 55)) := (Below.refl _ _).alloc (Nat.le_refl _) _
 have ix : (Tryz.prog.info? 55).map (·.size) = some xc.size := by rw [<- hxc]; exact (by kernel_rfl : (Tryz.prog.info? 55).map (·.size) = some 30)
 replace hb := hid hb;have hc1 := hc.alloc (.cells xc 55)
 have k0 := hc1.cell
 unfold fnV at k0
 have CM := hid (sc_may1 x.t x.h x.hp (W.alloc (.cells xc 55)))
 rw [show (x.t.cells x.h x.hp).toArray = xc from hxc] at CM
 have kb : Hid (∀ W', Below (W.alloc (.cells xc 55)).heap.size (W.alloc (.cells xc 55)) W' -> W'.cell? ⟨W.heap.size, 26, none⟩ = some (.string ⟨x.t.bytes.toArray⟩)) := hid fun W' h => by rw [(hB.below h).cell, <- hxc]; rfl
 have hsz : ByteArray.size ⟨x.t.bytes.toArray⟩ = x.t.bytes.length := by simp [ByteArray.size]
 obtain ⟨m, hm⟩ : ∃ m, x.t.bytes.length = m := ⟨_, rfl⟩
 rw [hm] at hsz ⊢
 obtain ⟨bs, hbs⟩ : ∃ bs : ByteArray, (⟨x.t.bytes.toArray⟩ : ByteArray) = bs := ⟨_, rfl⟩
 rw [hbs] at hsz kb
 obtain ⟨q, hq⟩ : ∃ q, connB x.t.conn = q := ⟨_, rfl⟩
 rw [hq]
 replace hq := hid hq;rw [hxc]
 clear hxc hm hbs hc hc1;go_enter Tryz.func58, Tryz.ntmps58
 go_wp2_with (refine wL 55 rfl rfl hB Tryz.underlying55 ?_ rfl rfl ix)
 refine CM.out.mono ?_
 rintro e w1 ⟨rfl, hb1⟩
 have k26 := kb.out w1 hb1
 have HB1 := hid (hb.out.trans (hb1.mono hb.out.size))
 rw [show (decide (0 <= x.t.conn) && decide (x.t.conn <= 65535)) = q from hq.out]
 clear hb1 k0;cases q with
 | false =>
  go_wp2_with fail
  go_ret
  exact ⟨rfl, HB1.out⟩
 | true =>
  by_cases h : m <= 10000
  ·have d : decide ((m : Int) <= 10000) = true := decide_eq_true (by omega)
   go_wp2_with fail
   go_ret
   exact ⟨by simp [h], HB1.out⟩
  ·have d : decide ((m : Int) <= 10000) = false := decide_eq_false (by omega)
   go_wp2_with fail
   go_ret
   exact ⟨by simp [h], HB1.out⟩
theorem sc_may14 (x : TnC) (W : World) : Calls Tryz.prog 62 #[.agg x.cells.toArray] W (AnyP (decide (0 <= x.t.arm) && decide (x.t.arm <= 2) && decide (-1 <= x.t.n) && decide (x.t.n < 65535)) W) := by
 obtain ⟨xc, hxc⟩ : ∃ xc, x.cells.toArray = xc := ⟨_, rfl⟩
 have hB : Blk (W.alloc (.cells xc 55)) W.heap.size xc 55 := Blk.new _ _ _
 have hb : Below W.heap.size W (W.alloc (.cells xc 55)) := (Below.refl _ _).alloc (Nat.le_refl _) _
 have ix : (Tryz.prog.info? 55).map (·.size) = some xc.size := by rw [<- hxc]; exact (by kernel_rfl : (Tryz.prog.info? 55).map (·.size) = some 30)
 replace hb := hid hb;have k27 : (W.alloc (.cells xc 55)).cell? ⟨W.heap.size, 27, none⟩ = some (.int .i64 x.t.arm) := by rw [hB.cell, <- hxc]; rfl
 have k28 : (W.alloc (.cells xc 55)).cell? ⟨W.heap.size, 28, none⟩ = some (.int .i64 x.t.n) := by rw [hB.cell, <- hxc]; rfl
 obtain ⟨u, hu⟩ : ∃ u, x.t.arm = u := ⟨_, rfl⟩
 obtain ⟨v, hv⟩ : ∃ v, x.t.n = v := ⟨_, rfl⟩
 rw [hu] at k27 ⊢
 rw [hv] at k28 ⊢
 rw [hxc]
 clear hxc hB ix hu hv;by_cases h1 : 0 <= u
 ·by_cases h2 : u <= 2
  ·by_cases h3 : -1 <= v
   ·by_cases h4 : v < 65535 <;>
    ·go_enter Tryz.func62, Tryz.ntmps62
     go_wp2_with fail
     go_ret
     exact ⟨by simp [h1, h2, h3, h4], hb.out⟩
   ·go_enter Tryz.func62, Tryz.ntmps62
    go_wp2_with fail
    go_ret
    exact ⟨by (simp [h1, h2, h3]; try omega), hb.out⟩
  ·go_enter Tryz.func62, Tryz.ntmps62
   go_wp2_with fail
   go_ret
   exact ⟨by (simp [h1, h2]; try omega), hb.out⟩
 ·go_enter Tryz.func62, Tryz.ntmps62
  go_wp2_with fail
  go_ret
  exact ⟨by (simp [h1]; try omega), hb.out⟩
theorem sc_pick (z : Int) (w : World) : Calls Tryz.prog 69 #[.int .i64 z] w (AnyP (decide (z < 0) || decide (255 < z)) w) := by
 by_cases h1 : z < 0
 ·go_enter Tryz.func69, Tryz.ntmps69
  go_wp2_with fail
  go_ret
  exact ⟨by simp [h1], Below.refl _ _⟩
 ·by_cases h2 : 255 < z <;>
  ·go_enter Tryz.func69, Tryz.ntmps69
   go_wp2_with fail
   go_ret
   exact ⟨by simp [h1, h2], Below.refl _ _⟩
theorem sc_may18 (x : TnC) (W : World) (hp : LsAt iCl 1 W x.hp.a x.hp.n x.hp.c x.t.picks) : Calls Tryz.prog 67 #[.agg x.cells.toArray] W (AnyP (decide (x.t.picks.length <= 255) && !x.t.picks.any fun z => decide (z < 0) || decide (255 < z)) W) := by
 obtain ⟨xc, hxc⟩ : ∃ xc, x.cells.toArray = xc := ⟨_, rfl⟩
 have hB : Blk (W.alloc (.cells xc 55)) W.heap.size xc 55 := Blk.new _ _ _
 have hb : Below W.heap.size W (W.alloc (.cells xc 55)) := (Below.refl _ _).alloc (Nat.le_refl _) _
 have ix : (Tryz.prog.info? 55).map (·.size) = some xc.size := by rw [<- hxc]; exact (by kernel_rfl : (Tryz.prog.info? 55).map (·.size) = some 30)
 replace hb := hid hb;have k29 : (W.alloc (.cells xc 55)).cell? ⟨W.heap.size, 29, none⟩ = some (.slice x.hp.a x.hp.n x.hp.c) := by rw [hB.cell, <- hxc]; rfl
 have hf := enters_of Tryz.func69 (by kernel_rfl) rfl
 have CA := hid (any_int 69 #[] (fun z => decide (z < 0) || decide (255 < z)) (hp.below hb.out) hf (fun W' y _ _ => sc_pick y W'))
 rw [hp.len]
 obtain ⟨q, hq⟩ : ∃ q, (x.t.picks.any fun z => decide (z < 0) || decide (255 < z)) = q := ⟨_, rfl⟩
 rw [hq] at CA ⊢
 rw [hxc]
 clear hxc hB ix hq hp;by_cases h : x.hp.n <= 255
 ·have d : decide ((x.hp.n : Int) <= 255) = true := decide_eq_true (by omega)
  go_enter Tryz.func67, Tryz.ntmps67
  go_wp2_with fail
  refine CA.out.mono ?_
  rintro e w1 ⟨rfl, hb1⟩
  have HB1 := hid (hb.out.trans (hb1.mono hb.out.size))
  clear hb1;go_wp2_with fail
  go_ret
  exact ⟨by simp [h], HB1.out⟩
 ·have d : decide ((x.hp.n : Int) <= 255) = false := decide_eq_false (by omega)
  go_enter Tryz.func67, Tryz.ntmps67
  go_wp2_with fail
  go_ret
  exact ⟨by simp [h], hb.out⟩
theorem Tells.of {P : Prop} {b : Bool} (h : b = true ↔ P) {w : World} {e : Ending} {w' : World} (k : AnyP b w e w') : Tells P w e w' := ⟨b, k.out.1, h, k.out.2⟩
def CheckOK (p : Pk) (h : H3) : Prop := ∀ W, p.In W h -> Calls Tryz.prog 51 #[.agg (p.cells h).toArray] W fun e w' => ∃ z : Int, e = .returned (.int .i64 z) /\ (z = 0 ↔ rightP p) /\ Below W.heap.size W w'
theorem sc_may6 (x : TnC) (c : Nat) (W : World) (hc : Boxed W c 66 (fnV 45 #[])) (hin : x.t.In W x.h x.hp) (hP : CheckOK x.t.pk x.h) :
  Calls Tryz.prog 50 #[.agg x.cells.toArray, .pointer (some ⟨c, 0, none⟩)] W (Tells (connB x.t.conn = true /\ rightP x.t.pk) W) := by
 obtain ⟨xc, hxc⟩ : ∃ xc, x.cells.toArray = xc := ⟨_, rfl⟩
 have hB : Blk (W.alloc (.cells xc 55)) W.heap.size xc 55 := Blk.new _ _ _
 have hb : Below W.heap.size W (W.alloc (.cells xc 55)) := (Below.refl _ _).alloc (Nat.le_refl _) _
 have ix : (Tryz.prog.info? 55).map (·.size) = some xc.size := by rw [<- hxc]; exact (by kernel_rfl : (Tryz.prog.info? 55).map (·.size) = some 30)
 replace hb := hid hb;have hc1 := hc.alloc (.cells xc 55)
 have k0 := hc1.cell
 unfold fnV at k0
 have CM := hid (sc_may1 x.t x.h x.hp (W.alloc (.cells xc 55)))
 rw [show (x.t.cells x.h x.hp).toArray = xc from hxc] at CM
 have kb : Hid (∀ W', Below (W.alloc (.cells xc 55)).heap.size (W.alloc (.cells xc 55)) W' -> W'.rangeAt W.heap.size 2 (x.t.pk.cells x.h)) := hid fun W' h => by
  have h1 := hB.below h
  rw [<- hxc] at h1
  exact h1.mid [.int .i64 x.t.kind, .int .i64 x.t.conn] (x.t.pk.cells x.h) [.string ⟨x.t.bytes.toArray⟩, .int .i64 x.t.arm, .int .i64 x.t.n, .slice x.hp.a x.hp.n x.hp.c] (Tn.cells_eq x.t x.h x.hp)
 have HI := hid hin;have HP := hid hP;obtain ⟨pc, hpc⟩ : ∃ pc, x.t.pk.cells x.h = pc := ⟨_, rfl⟩
 have hpl : Hid ((Tryz.prog.info? 52).map (·.size) = some pc.length) := hid (by rw [<- hpc]; exact (by kernel_rfl : (Tryz.prog.info? 52).map (·.size) = some 24))
 rw [hpc] at kb
 obtain ⟨q, hq⟩ : ∃ q, connB x.t.conn = q := ⟨_, rfl⟩
 rw [hq]
 replace hq := hid hq;replace hpc := hid hpc;rw [hxc]
 clear hxc hc hc1 hP hin;go_enter Tryz.func50, Tryz.ntmps50
 go_wp2_with (refine wL 55 rfl rfl hB Tryz.underlying55 ?_ rfl rfl ix)
 refine CM.out.mono ?_
 rintro e w1 ⟨rfl, hb1⟩
 have kr := kb.out w1 hb1
 have HB1 := hid (hb.out.trans (hb1.mono hb.out.size))
 rw [show (decide (0 <= x.t.conn) && decide (x.t.conn <= 65535)) = q from hq.out]
 clear hb1 k0;cases q with
 | false =>
  go_wp2_with fail
  go_ret
  exact Tells.no (fun h => by cases h.1) HB1.out
 | true =>
  have CP := hid (HP.out w1 (HI.out.below HB1.out).pk)
  rw [hpc.out] at CP
  go_wp2_with (refine wLmG 52 rfl rfl kr Tryz.underlying52 ?_ (by kernel_rfl) rfl hpl.out)
  refine CP.out.mono ?_
  rintro e w2 ⟨z, rfl, hz, hb2⟩
  have HB2 := hid (HB1.out.trans (hb2.mono HB1.out.size))
  clear hb2 kr;by_cases h : z = 0
  ·subst h
   have hr := hid (hz.1 rfl)
   clear hz;go_wp2_with fail
   go_ret
   exact Tells.yes ⟨by trivial, hr.out⟩ HB2.out
  ·have d : (z == 0) = false := by simpa using h
   have hr := hid (fun k => h (hz.2 k))
   clear hz;go_wp2_with fail
   go_ret
   exact Tells.no (fun h => hr.out h.2) HB2.out
end
section
section
variable {P : Program} {ops : Array Oper} {Q : Exit -> Act -> World -> Prop}
structure StepI (P : Program) (ops : Array Oper) (Q : Exit -> Act -> World -> Prop) (I : (Nat -> Bool) -> Act -> World -> Prop) (l : Nat -> Bool) (a : Act) (w : World) (i : Nat) : Prop where
 out : ∃ o, ops[i]? = some o /\ Region.wanted o (yielded ops a.tmps) = true /\ o.wp P a w (fun a' w' => I (fun j => if j = i then true else l j) a' w') Q
def lst (listed : Array Bool) (i : Nat) : Bool := listed.getD i true
theorem lst_set (listed : Array Bool) (i : Nat) : lst (listed.setIfInBounds i true) = fun j => if j = i then true else lst listed j := by
 funext j
 unfold lst
 rw [Array.getD_eq_getD_getElem?, Array.getD_eq_getD_getElem?, Array.getElem?_setIfInBounds]
 by_cases h : i = j
 ·subst h
  by_cases hs : i < listed.size <;> simp [hs]
 ·have h' : ¬ j = i := fun e => h e.symm
  simp [h, h']
theorem ready_mem {md : Region.Mode} {listed : Array Bool} {i : Nat} : i ∈ Region.ready md ops listed ↔ i < ops.size /\ lst listed i = false /\ ∃ o, ops[i]? = some o /\ ∀ e ∈ o.after, Region.binds md e = true -> listed.getD e.on false = true := by
 unfold Region.ready lst
 simp only [List.mem_filter, List.mem_range, Bool.and_eq_true, Bool.not_eq_true']
 constructor
 ·rintro ⟨h1, h2, h3⟩
  have ho : ops[i]? = some ops[i] := Array.getElem?_eq_getElem h1
  refine ⟨h1, h2, ops[i], ho, fun e he hb => ?_⟩
  rw [ho] at h3
  simp only [Option.map_some, Option.getD_some, Array.all_eq_true_iff_forall_mem] at h3
  have := h3 e he
  rw [hb] at this
  simpa using this
 ·rintro ⟨h1, h2, o, ho, h3⟩
  refine ⟨h1, h2, ?_⟩
  rw [ho]
  simp only [Option.map_some, Option.getD_some, Array.all_eq_true_iff_forall_mem]
  intro e he
  cases hb : Region.binds md e with
  | false => rfl
  | true => simpa using h3 e he hb
def backB (ops : Array Oper) : Bool := (List.range ops.size).all fun i => ((ops[i]?).map fun o => o.after.all fun e => !Region.binds .any e || decide (e.on < i)).getD true
theorem all_listed {listed : Array Bool} (hs : listed.size = ops.size) (hb : backB ops = true) (h : Region.ready .any ops listed = []) : ∀ i, i < ops.size -> lst listed i = true := by
 intro i
 induction i using Nat.strongRecOn with
 | _ i ih =>
  intro hi
  cases hl : lst listed i with
  | true => rfl
  | false =>
   exfalso
   have ho : ops[i]? = some ops[i] := Array.getElem?_eq_getElem hi
   have hm : i ∈ Region.ready .any ops listed := ready_mem.2 ⟨hi, hl, ops[i], ho, fun e he hbd => by
    unfold backB at hb
    rw [List.all_eq_true] at hb
    have h1 := hb i (List.mem_range.2 hi)
    rw [ho] at h1
    simp only [Option.map_some, Option.getD_some, Array.all_eq_true_iff_forall_mem] at h1
    have h2 := h1 e he
    rw [hbd] at h2
    have h3 : e.on < i := by simpa using h2
    have h4 := ih e.on h3 (by omega)
    unfold lst at h4
    rw [Array.getD_eq_getD_getElem?, Array.getElem?_eq_getElem (by omega : e.on < listed.size)] at h4 ⊢
    exact h4⟩
   rw [h] at hm
   cases hm
def unl (listed : Array Bool) : Nat := listed.toList.countP fun b => !b
theorem unl_set {listed : Array Bool} {i : Nat} (hi : i < listed.size) (h : lst listed i = false) : unl (listed.setIfInBounds i true) + 1 = unl listed := by
 unfold unl
 have hg : listed.toList[i]'(by simpa using hi) = false := by
  unfold lst at h
  rw [Array.getD_eq_getD_getElem?, Array.getElem?_eq_getElem hi] at h
  simpa using h
 rw [Array.toList_setIfInBounds, List.countP_set (by simpa using hi)]
 have hpos : 0 < listed.toList.countP fun b => !b := List.countP_pos_iff.2 ⟨false, by rw [<- hg]; exact List.getElem_mem _, rfl⟩
 rw [hg]
 simp only [Bool.not_false, if_true, Bool.not_true, Bool.false_eq_true, if_false, Nat.add_zero]
 omega
theorem wpAny_inv (I : (Nat -> Bool) -> Act -> World -> Prop) (hb : backB ops = true)
  (hs : ∀ (l : Nat -> Bool) a w i, I l a w -> i < ops.size -> l i = false -> (∀ o, ops[i]? = some o -> ∀ e ∈ o.after, Region.binds .any e = true -> l e.on = true) -> StepI P ops Q I l a w i)
  (he : ∀ l a w, (∀ i, i < ops.size -> l i = true) -> I l a w -> Q .normal a w) : ∀ (fuel : Nat) (listed : Array Bool) (a : Act) (w : World), listed.size = ops.size -> unl listed <= fuel -> I (lst listed) a w -> wpAny P .any ops Q fuel listed a w
 | 0, listed, a, w, hz, hu, hI => by
  have hall : ∀ i, i < ops.size -> lst listed i = true := fun i hi => by
   cases h : lst listed i with
   | true => rfl
   | false => have := unl_set (by omega : i < listed.size) h; omega
  refine ⟨?_, he _ a w hall hI⟩
  rw [List.eq_nil_iff_forall_not_mem]
  intro i hi
  obtain ⟨h1, h2, -⟩ := ready_mem.1 hi
  rw [hall i h1] at h2
  cases h2
 | fuel + 1, listed, a, w, hz, hu, hI => by
  refine ⟨fun h => he _ a w (all_listed hz hb h) hI, fun i hi => ?_⟩
  obtain ⟨h1, h2, o, ho, h3⟩ := ready_mem.1 hi
  obtain ⟨o', ho', hw, hwp⟩ := (hs (lst listed) a w i hI h1 h2 (fun o2 ho2 e hee hbd => by
   rw [ho] at ho2
   cases ho2
   have h4 := h3 e hee hbd
   unfold lst
   rw [Array.getD_eq_getD_getElem?] at h4 ⊢
   cases hx : listed[e.on]? with
   | none => rfl
   | some b => rw [hx] at h4; exact h4)).out
  unfold wpOp
  rw [ho']
  dsimp only
  rw [if_pos hw]
  refine .inl (Oper.wp_mono (fun a' w' h => ?_) hwp)
  refine wpAny_inv I hb hs he fuel _ a' w' (by simpa using hz) (by have := unl_set (by omega : i < listed.size) h2; omega) ?_
  rw [lst_set]
  exact h
theorem wp_region_inv {id : Nat} {a : Act} {w : World} (I : (Nat -> Bool) -> Act -> World -> Prop) (hm : P.follows .mixedOrders = true) (hb : backB ops = true) (h0 : I (fun i => decide (ops.size <= i)) a w.drew)
  (hs : ∀ (l : Nat -> Bool) a w i, I l a w -> i < ops.size -> l i = false -> (∀ o, ops[i]? = some o -> ∀ e ∈ o.after, Region.binds .any e = true -> l e.on = true) -> StepI P ops Q I l a w i)
  (he : ∀ l a w, (∀ i, i < ops.size -> l i = true) -> I l a w -> Q .normal a w) : (Code.region id ops true).wp P Q a w := by
 refine wp_region_any hm (wpAny_inv I hb hs he ops.size (Array.replicate ops.size false) a _ (by simp) ?_ ?_)
 ·unfold unl
  rw [Array.toList_replicate, List.countP_replicate]
  split <;> omega
 ·have : lst (Array.replicate ops.size false) = fun i => decide (ops.size <= i) := by
   funext i
   unfold lst
   rw [Array.getD_eq_getD_getElem?, Array.getElem?_replicate]
   by_cases h : i < ops.size
   ·have h' : ¬ ops.size <= i := by omega
    simp [h]
   ·have h' : ops.size <= i := by omega
    simp [h, h']
  rw [this]
  exact h0
end
end
section
attribute [local go_sem] Oper.semAt_some
structure LiB (fl : Int) (h m wr rd : Value) (b : Nat) (w : World) : Prop where
 fl : Boxed w b 3 (.int .i64 fl)
 has : Boxed w (b + 1) 145 h
 may : Boxed w (b + 2) 137 m
 wr : Boxed w (b + 3) 147 wr
 rd : Boxed w (b + 4) 195 rd
theorem LiB.below {fl : Int} {h m wr rd : Value} {b : Nat} {w w' : World} (x : LiB fl h m wr rd b w) (hb : Below w.heap.size w w') : LiB fl h m wr rd b w' :=
 ⟨boxed_below x.fl hb, boxed_below x.has hb, boxed_below x.may hb, boxed_below x.wr hb, boxed_below x.rd hb⟩
theorem LiB.wrote {fl : Int} {h m wr rd : Value} {b : Nat} {w w' : World} {M : List Nat} (x : LiB fl h m wr rd b w) (hw : Wrote M w w') (h0 : b ∉ M) (h1 : b + 1 ∉ M) (h2 : b + 2 ∉ M) (h3 : b + 3 ∉ M) (h4 : b + 4 ∉ M) : LiB fl h m wr rd b w' :=
 ⟨hw.boxed h0 x.fl, hw.boxed h1 x.has, hw.boxed h2 x.may, hw.boxed h3 x.wr, hw.boxed h4 x.rd⟩
def ptrV (b : Nat) : Value := .pointer (some ⟨b, 0, none⟩)
def liV (b : Nat) : Array Value := #[fnV 183 #[ptrV (b + 2)], fnV 184 #[ptrV (b + 1)], fnV 185 #[ptrV b], fnV 186 #[ptrV (b + 3)], fnV 187 #[ptrV (b + 4)]]
theorem pk_list (fl : Int) (f1 f2 f3 f4 : FuncId) (w : World) : Calls Tryz.prog 130 #[.int .i64 fl, fnV f1 #[], fnV f2 #[], fnV f3 #[], fnV f4 #[]] w fun e w' => ∃ b, w.heap.size <= b /\ e = .returned (.agg (liV b)) /\ LiB fl (fnV f1 #[]) (fnV f2 #[]) (fnV f3 #[]) (fnV f4 #[]) b w' /\ Below w.heap.size w w' := by
 have hmf : ∀ (fn : Fn) (first cap : Array Value) (w : World), (Instr.makeFunc fn first cap).run Tryz.prog w = .ok (.func fn first cap) w := fun _ _ _ _ => rfl
 obtain ⟨w1, hw1⟩ : ∃ W, ((((w.alloc (.cells #[.int .i64 fl] 3)).alloc (.cells #[fnV f1 #[]] 145)).alloc (.cells #[fnV f2 #[]] 137)).alloc (.cells #[fnV f3 #[]] 147)).alloc (.cells #[fnV f4 #[]] 195) = W := ⟨_, rfl⟩
 have hL : LiB fl (fnV f1 #[]) (fnV f2 #[]) (fnV f3 #[]) (fnV f4 #[]) w.heap.size w1 := by
  rw [<- hw1]
  refine ⟨?_, ?_, ?_, ?_, ?_⟩
  ·exact ((((Boxed.new w _ _).alloc _).alloc _).alloc _).alloc _
  ·have h := Boxed.new (w.alloc (.cells #[.int .i64 fl] 3)) 145 (fnV f1 #[])
   rw [World.size_alloc] at h
   exact ((h.alloc _).alloc _).alloc _
  ·have h := Boxed.new ((w.alloc (.cells #[.int .i64 fl] 3)).alloc (.cells #[fnV f1 #[]] 145)) 137 (fnV f2 #[])
   rw [World.size_alloc, World.size_alloc] at h
   exact (h.alloc _).alloc _
  ·have h := Boxed.new (((w.alloc (.cells #[.int .i64 fl] 3)).alloc (.cells #[fnV f1 #[]] 145)).alloc (.cells #[fnV f2 #[]] 137)) 147 (fnV f3 #[])
   rw [World.size_alloc, World.size_alloc, World.size_alloc] at h
   exact h.alloc _
  ·have h := Boxed.new ((((w.alloc (.cells #[.int .i64 fl] 3)).alloc (.cells #[fnV f1 #[]] 145)).alloc (.cells #[fnV f2 #[]] 137)).alloc (.cells #[fnV f3 #[]] 147)) 195 (fnV f4 #[])
   rw [World.size_alloc, World.size_alloc, World.size_alloc, World.size_alloc] at h
   exact h
 have hb : Below w.heap.size w w1 := by rw [<- hw1]; exact belw
 have hs : w1.heap.size = w.heap.size + 5 := by rw [<- hw1]; simp
 unfold fnV at hw1 ⊢
 go_enter Tryz.func130, Tryz.ntmps130
 replace hs := hid hs;go_wp2_with fail
 refine bodyPost_ret (results_cell1 Tryz.results130 rfl (run_loadVar_blk (Blk.new w1 (liV w.heap.size) 150) 150 Tryz.underlying150 rfl (by kernel_rfl))) rfl ?_
 have hb2 : Below w1.heap.size w1 (w1.alloc (.cells (liV w.heap.size) 150)) := (Below.refl _ w1).alloc (Nat.le_refl _) _
 exact ⟨w.heap.size, Nat.le_refl _, rfl, hL.below hb2, hb.trans (hb2.mono hb.size)⟩
def conV : Array Value := #[fnV 197 #[], fnV 200 #[], .nilFunc, fnV 201 #[], fnV 203 #[]]
def pubV : Array Value := #[fnV 204 #[], fnV 205 #[], fnV 206 #[], fnV 208 #[], fnV 209 #[]]
theorem pk_connect (w : World) : Calls Tryz.prog 156 #[] w fun e w' => e = .returned (.agg conV) /\ Below w.heap.size w w' := by
 go_enter Tryz.func156, Tryz.ntmps156
 go_wp2_with fail
 refine bodyPost_ret (results_cell1 Tryz.results156 rfl (run_loadVar_blk (Blk.new w conV 150) 150 Tryz.underlying150 rfl (by kernel_rfl))) rfl ?_
 exact ⟨rfl, (Below.refl _ w).alloc (Nat.le_refl _) _⟩
theorem pk_publish (w : World) : Calls Tryz.prog 157 #[] w fun e w' => e = .returned (.agg pubV) /\ Below w.heap.size w w' := by
 go_enter Tryz.func157, Tryz.ntmps157
 go_wp2_with fail
 refine bodyPost_ret (results_cell1 Tryz.results157 rfl (run_loadVar_blk (Blk.new w pubV 150) 150 Tryz.underlying150 rfl (by kernel_rfl))) rfl ?_
 exact ⟨rfl, (Below.refl _ w).alloc (Nat.le_refl _) _⟩
theorem pk_answer (fl : Int) (w : World) : Calls Tryz.prog 158 #[.int .i64 fl] w fun e w' => ∃ b, w.heap.size <= b /\ e = .returned (.agg (liV b)) /\ LiB fl (fnV 211 #[]) (fnV 212 #[]) (fnV 213 #[]) (fnV 214 #[]) b w' /\ Below w.heap.size w w' := by
 obtain ⟨W0, hW0⟩ : ∃ W, w.alloc (.cells #[.nilFunc, .nilFunc, .nilFunc, .nilFunc, .nilFunc] 150) = W := ⟨_, rfl⟩
 have hb0 : Below w.heap.size w W0 := by rw [<- hW0]; exact (Below.refl _ w).alloc (Nat.le_refl _) _
 have hx : Blk W0 w.heap.size #[.nilFunc, .nilFunc, .nilFunc, .nilFunc, .nilFunc] 150 := by rw [<- hW0]; exact Blk.new _ _ _
 have CL := hid (pk_list fl 211 212 213 214 W0)
 replace hb0 := hid hb0;replace hx := hid hx;go_enter Tryz.func158, Tryz.ntmps158
 go_wp2_with fail
 refine CL.out.mono ?_
 rintro e w1 ⟨b, hbl, rfl, hL, hb1⟩
 have hbl := hid hbl;have hx1 := hx.out.below hb1
 have HL := hid hL;have HB := hid (hb0.out.trans (hb1.mono hb0.out.size))
 have hs1 := hid hb1.size;clear hL hb1;obtain ⟨cs, hcs⟩ : ∃ cs, liV b = cs := ⟨_, rfl⟩
 have hz : Hid (cs.size = 5) := hid (by rw [<- hcs]; rfl)
 have ho : Hid (∀ v ∈ cs.toList, v.oneCell' = true) := hid (by rw [<- hcs]; simp [liV, fnV, Value.oneCell'])
 rw [hcs]
 replace hcs := hid hcs;go_wp2_with (refine wS 150 5 rfl _ _ cs rfl rfl hx1 hz.out rfl ho.out ?_; intro w2 hw2 hr2)
 refine bodyPost_ret (results_cell1 Tryz.results158 rfl (run_loadVar_blk hw2 150 Tryz.underlying150 rfl (by rw [hz.out]; kernel_rfl))) rfl ?_
 have hlt := hx.out.lt
 have hbl := hbl.out
 exact ⟨b, by omega, by rw [hcs.out], HL.out.wrote hr2 (by simp; omega) (by simp; omega) (by simp; omega) (by simp; omega) (by simp; omega), HB.out.trans (hr2.below HB.out.size (by simp))⟩
end
end Go.Proofs.YtkghejaimhoboaaGreatDoor
