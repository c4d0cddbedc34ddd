/- Parts of the proof of SessionRows: contracts of functions that it reaches, and plain lemmas. No condition of their own. -/
import Derived.Test.YtoinabapaeebfaaGreatDoorPk06
import Derived.Handy
import Derived.Test.YtoinabapaeebfaaGreatDoorPk03
import Derived.Shelf.Spec.TrailingZeros
import Derived.Test.YtoinabapaeebfaaGreatDoorPk05
import Derived.BigRegionIn
import Derived.RegionIn
set_option linter.unusedSimpArgs false
set_option linter.unusedVariables false
set_option maxRecDepth 100000
set_option maxHeartbeats 8000000
namespace Go.Proofs.YtoinabapaeebfaaGreatDoor
open Go.RowKit Go.Shelf
section
def mayI (id : Int) : Bool := decide (1 <= id) && decide (id <= 65535)
theorem in_may (id : Int) (w : World) :
  Calls Tryz.prog 110 #[.int .i64 id] w fun e w' => e = .returned (.bool (mayI id)) /\ w = w' := by
 by_cases h : 1 <= id
 ·go_enter Tryz.func110, Tryz.ntmps110
  go_wp2
  go_ret
  simp [h, mayI]
 ·have d : decide (1 <= id) = false := decide_eq_false h
  go_enter Tryz.func110, Tryz.ntmps110
  go_wp2
  go_ret
  simp [d, mayI]
structure InAt (w : World) (b s : Nat) (most : Int) : Prop where
 set : w.cell? ⟨b, 0, none⟩ = some (.pointer (some ⟨s, 0, none⟩))
 most : w.cell? ⟨b, 1, none⟩ = some (.int .i64 most)
theorem in_none (w : World) (b s : Nat) (most : Int) (h : InAt w b s most) :
  Calls Tryz.prog 109 #[.pointer (some ⟨b, 0, none⟩)] w fun e w' => e = .returned (.bool false) /\ w = w' := by
 have h0 := h.set
 go_enter Tryz.func109, Tryz.ntmps109
 go_wp2
 go_ret
 simp
def Blk (w : World) (b : Nat) (cs : Array Value) (T : TypeId) : Prop := w.heap[b]? = some (.cells cs T (0, 0))
section
variable {w : World} {b : Nat} {cs : Array Value} {T : TypeId}
theorem Blk.lt (h : Blk w b cs T) : b < w.heap.size := (Array.getElem?_eq_some_iff.1 h).1
theorem Blk.cell (h : Blk w b cs T) (j : Nat) : w.cell? ⟨b, j, none⟩ = cs[j]? := by
 unfold Blk at h
 simp [World.cell?, h]
theorem Blk.frozen (h : Blk w b cs T) (j : Nat) : w.frozen? ⟨b, j, none⟩ = false := by
 unfold Blk at h
 simp [World.frozen?, h]
theorem Blk.keep {w' : World} (h : Blk w b cs T) (hk : w'.heap[b]? = w.heap[b]?) : Blk w' b cs T := hk.trans h
theorem Blk.alloc (h : Blk w b cs T) (o : Obj) : Blk (w.alloc o) b cs T := h.keep (Below.heap_alloc _ _ _ h.lt)
theorem Blk.drew (h : Blk w b cs T) : Blk w.drew b cs T := h
theorem Blk.new (w : World) (cs : Array Value) (T : TypeId) : Blk (w.alloc (.cells cs T)) w.heap.size cs T := World.alloc_heap_new w _
theorem Blk.set (h : Blk w b cs T) (j : Nat) (v : Value) : Blk (w.setCell ⟨b, j, none⟩ v) b (cs.setIfInBounds j v) T := by
 have := h.lt
 unfold Blk at h ⊢
 simp [World.setCell, Array.getElem?_modify, h]
theorem Blk.set_ne (h : Blk w b cs T) (p : Addr) (hp : p.block ≠ b) (v : Value) : Blk (w.setCell p v) b cs T := h.keep (Below.heap_setCell _ _ _ _ (Ne.symm hp))
theorem Blk.putObj (h : Blk w b cs T) (l : Nat) (hl : l ≠ b) (o : Obj) : Blk (w.putObj l o) b cs T := h.keep (World.putObj_heap_other (Ne.symm hl))
theorem Blk.wrote {M : List Nat} {w' : World} (h : Blk w b cs T) (hw : Wrote M w w') (hb : b ∉ M) : Blk w' b cs T := h.keep (hw.block b h.lt hb)
theorem Blk.below {w' : World} (h : Blk w b cs T) (hw : Below w.heap.size w w') : Blk w' b cs T := h.keep (hw.block b h.lt)
theorem Blk.ne {b' : Nat} {cs' : Array Value} {T' : TypeId} (h : Blk w b cs T) (h' : Blk w b' cs' T') (ht : T ≠ T') : b ≠ b' := by
 intro e; subst e; unfold Blk at h h'; rw [h] at h'; cases h'; exact ht rfl
end
structure Inb (w : World) (b s : Nat) (most : Int) (W : Nat -> Nat) : Prop where
 box : Blk w b #[.pointer (some ⟨s, 0, none⟩), .int .i64 most] 183
 set : Blk w s (setCells W) 181
theorem Inb.at {w : World} {b s : Nat} {most : Int} {W : Nat -> Nat} (h : Inb w b s most W) : InAt w b s most := ⟨(h.box.cell 0).trans rfl, (h.box.cell 1).trans rfl⟩
theorem Inb.wrote {w w' : World} {b s : Nat} {most : Int} {W : Nat -> Nat} (h : Inb w b s most W) {M : List Nat} (hw : Wrote M w w') (hb : b ∉ M) (hs : s ∉ M) : Inb w' b s most W := ⟨h.box.wrote hw hb, h.set.wrote hw hs⟩
theorem in_New (most : Int) (w : World) (h1 : 1 <= most) (h2 : most <= 1000) :
  Calls Tryz.prog 52 #[.int .i64 most] w fun e w' => e = .returned (.tuple #[.pointer (some ⟨w.heap.size + 1, 0, none⟩), .int .i64 0]) /\ Inb w' (w.heap.size + 1) w.heap.size most (fun _ => 0) /\ Below w.heap.size w w' := by
 have d1 : decide (most < 1) = false := decide_eq_false (by omega)
 have d2 : decide (most > 1000) = false := decide_eq_false (by omega)
 go_enter Tryz.func52, Tryz.ntmps52
 go_wp2
 go_returns
 have hz : Tryz.zeroCells181 = setCells (fun _ => 0) := by rw [setCells_zero]; kernel_rfl
 rw [hz]
 exact ⟨rfl, ⟨by simpa using Blk.new (w.alloc _) _ _, (Blk.new w _ _).alloc _⟩, ((Below.refl _ w).alloc (Nat.le_refl _) _).alloc (by simp) _⟩
end
section
def tzRen : Go.Shelf.Ren := ⟨fun | 29 => 191 | n => n, fun | 0 => 0 | 3 => 3 | 4 => 4 | 5 => 5 | 22 => 179 | 25 => 194 | 54 => 287 | n => n, fun | 1 => 1 | n => n⟩
theorem tzLays : Go.Proofs.Lays7.n29 Tryz.prog tzRen := {
 mixed := by kernel_rfl
 f29 := Tryz.func191.trans (congrArg some (by kernel_rfl))
 t0 := Tryz.underlying0
 a0 := Tryz.isAgg0
 z0 := Tryz.sizeOf0
 v0 := Tryz.zeroValue0
 i0 := by kernel_rfl
 t3 := Tryz.underlying3
 a3 := Tryz.isAgg3
 z3 := Tryz.sizeOf3
 v3 := Tryz.zeroValue3
 i3 := by kernel_rfl
 t4 := Tryz.underlying4
 a4 := Tryz.isAgg4
 z4 := Tryz.sizeOf4
 v4 := Tryz.zeroValue4
 i4 := by kernel_rfl
 t5 := Tryz.underlying5
 a5 := Tryz.isAgg5
 z5 := Tryz.sizeOf5
 v5 := Tryz.zeroValue5
 i5 := by kernel_rfl
 t22 := Tryz.underlying179
 a22 := Tryz.isAgg179
 z22 := Tryz.sizeOf179
 v22 := Tryz.zeroValue179
 i22 := by kernel_rfl
 t25 := Tryz.underlying194
 a25 := Tryz.isAgg194
 z25 := Tryz.sizeOf194
 v25 := Tryz.zeroValue194
 i25 := by kernel_rfl
 t54 := Tryz.underlying287
 a54 := Tryz.isAgg287
 z54 := Tryz.sizeOf287
 g1 := by kernel_rfl }
def TzAt (w : World) : Prop := TabAt 1 Lib.deBruijn64tab w
theorem TzAt.keep {w w' : World} (h : TzAt w) (hk : ∀ p v, p.block = 1 -> w.cell? p = some v -> w'.cell? p = some v) : TzAt w' := fun j hj => hk _ _ rfl (h j hj)
theorem tz64 (x : Nat) (hx : x < 18446744073709551616) (w : World) (hT : TzAt w) :
  Calls Tryz.prog 191 #[.int .u64 x] w fun e w' => e = .returned (.int .i64 (Lib.ctz 64 x)) /\ w' = w :=
 Any7.bits_TrailingZeros64 tzLays x hx w (fun _ => hT)
end
section
theorem pow_wrap (k : Nat) (h : k < 64) : IntKind.u64.wrap (2 ^ k) = 2 ^ k := by
 have : (2 : Nat) ^ k < 2 ^ 64 := Nat.pow_lt_pow_right (by decide) h
 have h2 : ((2 : Int) ^ k) = ((2 ^ k : Nat) : Int) := by simp
 rw [h2]
 generalize 2 ^ k = m at *
 simp only [IntKind.wrap_u64]
 omega
theorem pow_cast (k : Nat) : ((2 : Int) ^ k) = ((2 ^ k : Nat) : Int) := by simp
theorem bit_and (x k : Nat) (h : k < 64) (hx : x < 18446744073709551616) : decide (0 < bits BinOp.and IntKind.u64 (x : Int) (2 ^ k)) = x.testBit k := by
 have h2 : (2 : Nat) ^ k < 2 ^ 64 := Nat.pow_lt_pow_right (by decide) h
 rw [pow_cast, bits_and_u64_nat x _ hx h2]
 cases ht : x.testBit k with
 | false =>
  have : x &&& 2 ^ k = 0 := Nat.eq_of_testBit_eq fun j => by
   rw [Nat.testBit_and, Nat.testBit_two_pow, Nat.zero_testBit]
   by_cases e : k = j
   ·subst e; simp [ht]
   ·simp [e]
  rw [this]; rfl
 | true =>
  have h3 : (x &&& 2 ^ k).testBit k = true := by simp [Nat.testBit_and, Nat.testBit_two_pow, ht]
  have h4 : 0 < x &&& 2 ^ k := Nat.pos_of_ne_zero fun e => by rw [e] at h3; simp at h3
  have h5 : (0 : Int) < ((x &&& 2 ^ k : Nat) : Int) := by omega
  exact decide_eq_true h5
theorem bit_xor (x k : Nat) (h : k < 64) (hx : x < 18446744073709551616) : bits BinOp.xor IntKind.u64 (x : Int) (2 ^ k) = ((x ^^^ 2 ^ k : Nat) : Int) := by
 have h2 : (2 : Nat) ^ k < 2 ^ 64 := Nat.pow_lt_pow_right (by decide) h
 rw [pow_cast, bits_xor_u64_nat x _ hx h2]
theorem in_at (s : Nat) (z : Int) (w : World) (h0 : 1 <= z) (h1 : z <= 65535) :
  Calls Tryz.prog 169 #[.pointer (some ⟨s, 0, none⟩), .int .i64 z] w fun e w' => e = .returned (.tuple #[.pointer (some ⟨s, (z / 64).toNat, none⟩), .int .u64 (2 ^ (z % 64).toNat)]) /\ Below w.heap.size w w' := by
 have q1 : z.tdiv 64 = z / 64 := by rw [Int.tdiv_eq_ediv_of_nonneg (by omega)]
 have q2 : z.tmod 64 = z % 64 := by rw [Int.tmod_eq_emod_of_nonneg (by omega)]
 have hp : (z % 64).toNat < 64 := by omega
 go_enter Tryz.func169, Tryz.ntmps169
 go_wp2
 go_region
 go_wp2
 go_returns
 rw [pow_wrap _ hp]
 exact ⟨rfl, (Below.refl _ w).drew⟩
theorem in_Has (b s : Nat) (most : Int) (W : Nat -> Nat) (ids : List Nat) (z : Int) (w : World) (hI : Inb w b s most W) (hS : SetIs W ids) (h0 : 1 <= z) (h1 : z <= 65535) :
  Calls Tryz.prog 111 #[.pointer (some ⟨b, 0, none⟩), .int .i64 z] w fun e w' => e = .returned (.bool (decide (z.toNat ∈ ids))) /\ Below w.heap.size w w' := by
 have CN := in_none w b s most hI.at
 have CM := in_may z w
 have CA := in_at s z w h0 h1
 have hm : mayI z = true := by simp [mayI, h0, h1]
 rw [hm] at CM
 have k0 := hI.at.set
 obtain ⟨i, hi⟩ : ∃ i, (z / 64).toNat = i := ⟨_, rfl⟩
 obtain ⟨u, hu⟩ : ∃ u : Int, 2 ^ (z % 64).toNat = u := ⟨_, rfl⟩
 obtain ⟨x, hx⟩ : ∃ x : Int, (W i : Int) = x := ⟨_, rfl⟩
 have kc : w.cell? ⟨s, i, none⟩ = some (.int .u64 x) := by rw [hI.set.cell, setCells_get _ _ (by omega), hx]
 rw [hi, hu] at CA
 go_enter Tryz.func111, Tryz.ntmps111
 go_wp2_with (first
  | (go_at_call 109; refine CN.mono ?_; rintro e w1 ⟨rfl, rfl⟩)
  | (go_at_call 110; refine CM.mono ?_; rintro e w1 ⟨rfl, rfl⟩)
  | (go_at_call 169; refine CA.mono ?_; rintro e w1 ⟨rfl, hb⟩; have kc1 := (hb.cell (p := ⟨s, i, none⟩) hI.set.lt).trans kc))
 go_ret
 refine ⟨?_, hb⟩
 subst hx hu;have hp : (z % 64).toNat < 64 := by omega
 rw [bit_and _ _ hp (hS.lt i)]
 have := hS.has z.toNat (by omega)
 rw [show z.toNat / 64 = i by omega, show z.toNat % 64 = (z % 64).toNat by omega] at this
 rw [this]
 rfl
theorem in_turn (b s : Nat) (most : Int) (W : Nat -> Nat) (z : Int) (w : World) (hI : Inb w b s most W) (hW : ∀ i, W i < 18446744073709551616) (h0 : 1 <= z) (h1 : z <= 65535) :
  Calls Tryz.prog 113 #[.pointer (some ⟨b, 0, none⟩), .int .i64 z] w fun e w' => e = .returned (.tuple #[]) /\ Inb w' b s most (tog W z.toNat) /\ Wrote [s] w w' := by
 have CA := in_at s z w h0 h1
 have k0 := hI.at.set
 obtain ⟨i, hi⟩ : ∃ i, (z / 64).toNat = i := ⟨_, rfl⟩
 obtain ⟨u, hu⟩ : ∃ u : Int, 2 ^ (z % 64).toNat = u := ⟨_, rfl⟩
 obtain ⟨x, hx⟩ : ∃ x : Int, (W i : Int) = x := ⟨_, rfl⟩
 have kc : w.cell? ⟨s, i, none⟩ = some (.int .u64 x) := by rw [hI.set.cell, setCells_get _ _ (by omega), hx]
 rw [hi, hu] at CA
 go_enter Tryz.func113, Tryz.ntmps113
 go_wp2_with (go_at_call 169; refine CA.mono ?_; rintro e w1 ⟨rfl, hb⟩; have hs1 := hI.set.below hb; have kc1 := (hb.cell (p := ⟨s, i, none⟩) hI.set.lt).trans kc; have kf := hs1.frozen i)
 go_end0
 have hp : (z % 64).toNat < 64 := by omega
 refine ⟨rfl, ⟨(hI.box.below hb).set_ne _ (hI.set.ne hI.box (by decide)) _, ?_⟩, (Wrote.of_below hb).trans (Wrote.setCell w1 ⟨s, i, none⟩ (by simp) _)⟩
 have h3 := hs1.set i (.int .u64 (bits BinOp.xor IntKind.u64 x u))
 rw [<- hx, <- hu, bit_xor _ _ hp (hW i), <- show z.toNat / 64 = i by omega, <- show z.toNat % 64 = (z % 64).toNat by omega, setCells_tog] at h3
 rw [<- hx, <- hu, bit_xor _ _ hp (hW i), <- show z.toNat / 64 = i by omega, <- show z.toNat % 64 = (z % 64).toNat by omega]
 exact h3
end
section
attribute [local go_sem] Oper.semAt_some
def encI (x : Int) : Array Value := #[.int .i64 x]
theorem TzAt.block {w w' : World} (h : TzAt w) (hk : w'.heap[1]? = w.heap[1]?) : TzAt w' := by
 refine h.keep fun p v hp hc => ?_
 unfold World.cell? at hc ⊢
 rw [hp] at hc ⊢
 rw [hk]; exact hc
theorem TzAt.lt {w : World} (h : TzAt w) : 1 < w.heap.size := cell_lt (p := ⟨1, 0, none⟩) (h 0 (by decide))
theorem TzAt.below {w w' : World} (h : TzAt w) (hb : Below w.heap.size w w') : TzAt w' := h.block (hb.block _ h.lt)
theorem TzAt.wrote {M : List Nat} {w w' : World} (h : TzAt w) (hb : Wrote M w w') (hM : 1 ∉ M) : TzAt w' := h.block (hb.block _ h.lt hM)
theorem in_each (s : Nat) (w : World) :
  Calls Tryz.prog 127 #[.pointer (some ⟨s, 0, none⟩)] w fun e w' => e = .returned (.func (.func 190) #[] #[.pointer (some ⟨w.heap.size, 0, none⟩)]) /\ w.alloc (.cells #[.pointer (some ⟨s, 0, none⟩)] 178) = w' := by
 go_enter Tryz.func127, Tryz.ntmps127
 go_wp2
 go_ret
 exact ⟨rfl, rfl⟩
theorem popN_pos (n w : Nat) (h0 : w ≠ 0) (h : w < 2 ^ n) : 0 < popN n w := by have := popN_and n w h0 h; omega
theorem in_each1 (s : Nat) (W0 : Nat -> Nat) (w : World) (B : Nat) (hs : Blk w s (setCells W0) 181) (hW0 : ∀ i, W0 i < 18446744073709551616) (hT : TzAt w) (hb : Boxed w B 178 (.pointer (some ⟨s, 0, none⟩))) :
  SeqG Tryz.prog 190 #[.pointer (some ⟨B, 0, none⟩)] encI (Keep 0 [B, s, 1]) (Wrote []) (fun pre _ _ => pre.length < 65536) (fun xs => xs.length = tot 1024 W0) (fun _ => True) w := by
 intro lb J Jx W hW hlb hJ hJx hY h0
 have hb := boxed_below hb hW
 have hs := hs.below hW
 have hT := hT.below hW
 refine callsIn_of_wp Tryz.func190 rfl trivial ?_ rfl
 simp only [Tryz.ntmps190, List.size_toArray, List.length_cons, List.length_nil, Nat.reduceAdd, Nat.reduceSub, Array.replicate_succ, Array.replicate_zero, List.push_toArray, List.append_toArray, List.nil_append, List.cons_append]
 have hc1 := hb.cell
 gi_wp2
 refine wpIn_wide.2 (wp_scope_straight ((wpIn_wide (n := 0)).1 ?_))
 refine wpIn_seq (wpIn_label ?_)
 simp only [go_sem]
 gi_wp2
 gi_loopw [3, 4, 6] (fun _ _ i wr => ∃ (pre : List Int) (k : Nat), i = .int .i64 k /\ k <= 1024 /\ Hid (pre.length = tot k W0) /\ Boxed wr B 178 (.pointer (some ⟨s, 0, none⟩)) /\ Blk wr s (setCells W0) 181 /\ TzAt wr /\ J pre wr)
  (fun _ _ i _ => 1024 - (intOf i).toNat)
 case atStart => exact ⟨[], 0, rfl, Nat.zero_le _, hid rfl, hb, hs, hT, h0⟩
 case round =>
  obtain ⟨pre, k, rfl, hk, hn, hb, hs, hT, hj⟩ := hrel
  rcases Nat.lt_or_ge k 1024 with hlt | hge
  ·obtain ⟨x, hx⟩ : ∃ x : Int, (W0 k : Int) = x := ⟨_, rfl⟩
   have dk : decide ((k : Int) < 1024) = true := decide_eq_true (by omega)
   have kc1 : wr.cell? ⟨s, k, none⟩ = some (.int .u64 x) := by
    have := hs.cell k
    rw [setCells_get _ _ hlt, hx] at this
    exact this
   gi_wp2
   gi_region
   gi_wp2
   gi_loopw [4] (fun v wi => ∃ (pre' : List Int) (y : Nat), v = .int .u64 y /\ Hid (y < 18446744073709551616) /\ Hid (pre'.length + popN 64 y = tot (k + 1) W0) /\ Boxed wi B 178 (.pointer (some ⟨s, 0, none⟩)) /\ Blk wi s (setCells W0) 181 /\ TzAt wi /\ J pre' wi)
    (fun v _ => (intOf v).toNat)
   case atStart => exact ⟨pre, W0 k, by rw [hx], hW0 k, (by rw [hn.out]; rfl), hb, hs, hT, hJ _ _ _ hj (Wrote.of_below (Below.refl _ wr).drew)⟩
   case round =>
    obtain ⟨pre', y, rfl, hy, hn', hb', hs', hT', hj'⟩ := hrel
    by_cases h0y : y = 0
    ·subst h0y
     gi_wp2
     go_roundw
     case rel => exact ⟨pre', k + 1, by go_num, by omega, hid (by have := hn'.out; rwa [popN_zero] at this), hb', hs', hT', hj'⟩
     case measure => simp [intOf]; omega
    ·have e0 : ((y : Int) != 0) = true := by simp; omega
     have HTZ := hid (tz64 y hy.out _ hT')
     have HP := hid (popN_and 64 y h0y hy.out)
     have hcb : Lib.ctz 64 y < 64 := (Lib.lowest_bit 64 y h0y hy.out).2
     obtain ⟨c, hc⟩ : ∃ c : Nat, Lib.ctz 64 y = c := ⟨_, rfl⟩
     rw [hc] at HTZ hcb
     gi_wp2_with fail
     refine inW HTZ.out ?_
     rintro e w2 ⟨rfl, rfl⟩
     obtain ⟨fn, tmps, assign, body, hy2, hR⟩ := hY pre' (64 * k + c) w2 hj' (by have := hn'.out; have := popN_pos 64 y h0y hy.out; have := tot_le W0 (k + 1); show pre'.length < 65536; omega)
     replace hy2 : (Instr.yield lb #[.int .i64 (64 * (k : Int) + c)]).run Tryz.prog w2 = _ := hy2
     have HR := hid hR;clear hR;gi_wp2_with fail
     refine ⟨rfl, HR.out.mono ?_⟩
     rintro e W3 (⟨rfl, hJ3, hk3⟩ | ⟨rfl, hJx3⟩)
     ·have hx1 : IntKind.u64.wrap ((y : Int) - 1) = ((y - 1 : Nat) : Int) := by have := hy.out; rw [IntKind.wrap_u64]; omega
      have hx2 : bits BinOp.and IntKind.u64 (y : Int) ((y - 1 : Nat) : Int) = ((y &&& (y - 1) : Nat) : Int) := by
       have := hy.out
       rw [bits_and_u64_nat y _ this (by omega)]
      have hle : y &&& (y - 1) <= y - 1 := Nat.and_le_right
      have hn3 : (pre' ++ [(64 * (k : Int) + c)]).length + popN 64 (y &&& (y - 1)) = tot (k + 1) W0 := by
       have h1 := hn'.out
       have h2 := HP.out
       simp
       omega
      have hb3 : Boxed W3 B 178 _ := (hk3.keep B (by simp)).trans hb'
      have hs3 : Blk W3 s _ 181 := hs'.keep (hk3.keep s (by simp))
      have hT3 : TzAt W3 := hT'.block (hk3.keep 1 (by simp))
      gi_wp2
      go_roundw
      case rel => exact ⟨_, y &&& (y - 1), by first | rfl | rw [hx2], hid (by have := hy.out; omega), hid hn3, hb3, hs3, hT3, hJ3⟩
      case measure => simp [intOf, hx2]; omega
     ·gi_wp2
      simp only [Exit.noGoto_normal]
      refine bodyPost_end (results_none rfl _ _ _) rfl ?_
      exact ⟨⟨_, rfl⟩, .inr ⟨_, trivial, hJx3⟩⟩
  ·obtain rfl : k = 1024 := by omega
   gi_wp2
   simp only [Exit.noGoto_normal]
   refine bodyPost_end (results_none rfl _ _ _) rfl ?_
   exact ⟨⟨_, rfl⟩, .inl ⟨_, hn.out, hj⟩⟩
end
section
attribute [local go_sem] Oper.semAt_some
def CntI (w : World) (pre : List Int) (W : World) : Prop := Boxed W w.heap.size 3 (.int .i64 (pre.length : Int)) /\ Below w.heap.size w W
theorem in_count (s : Nat) (W0 : Nat -> Nat) (w : World) (B : Nat) (hs : Blk w s (setCells W0) 181) (hW0 : ∀ i, W0 i < 18446744073709551616) (hT : TzAt w) (hb : Boxed w B 178 (.pointer (some ⟨s, 0, none⟩))) :
  Calls Tryz.prog 170 #[.func (.func 190) #[] #[.pointer (some ⟨B, 0, none⟩)]] w fun e w' => e = .returned (.int .i64 (tot 1024 W0)) /\ Below w.heap.size w w' := by
 have hBl := hb.lt
 have hsl := hs.lt
 have hTl := hT.lt
 refine calls_marks Tryz.func170 rfl ?_
 simp only [Tryz.ntmps170, List.size_toArray, List.length_cons, List.length_nil, Nat.reduceAdd, Nat.reduceSub, Array.replicate_succ, Array.replicate_zero, List.push_toArray, List.append_toArray, List.nil_append, List.cons_append]
 go_wp2_with fail
 generalize hWa : w.alloc (Obj.cells #[Value.int IntKind.i64 0] 3) = Wa
 have hsz : Wa.heap.size = w.heap.size + 1 := by rw [<- hWa]; simp
 have hb0 : Below w.heap.size w Wa := by rw [<- hWa]; exact (Below.refl _ w).alloc (Nat.le_refl _) _
 have hbx : Boxed Wa w.heap.size 3 (.int .i64 0) := by rw [<- hWa]; exact Boxed.new w 3 (.int .i64 0)
 have HWa := hid hWa; clear hWa
 refine wp_range (α := Int) (gf := 190) (lb := #[.pointer (some ⟨B, 0, none⟩)]) rfl (enters_of Tryz.func190 (by kernel_rfl) rfl)
  (n₀ := 0) (L := [B, s, 1]) (M := []) (in_each1 s W0 Wa B (hs.below hb0) hW0 (hT.below hb0) (boxed_below hb hb0))
  (Nat.zero_le _) (by simp; omega) (by simp) (fun _ => rfl) (CntI w) (fun _ _ _ => False) ?hI ?hIx ?h0
  (fun pre x a' W => pre.length < 65536 /\ a' = { tmps := #[.func (.func 190) #[] #[.pointer (some ⟨B, 0, none⟩)], undef, .int .i64 0, .pointer (some ⟨w.heap.size, 0, none⟩), .func (.func 190) #[] #[.pointer (some ⟨B, 0, none⟩)], .int .i64 x, undef, undef, undef], defers := [] }) ?hAx ?assign ?body ?done ?stop
 case hI =>
  rintro s' A A' ⟨g1, g2⟩ hw
  rw [hsz] at hw
  exact ⟨hw.boxed (by simp <;> omega) g1, g2.trans (hw.below g2.size (by simp <;> omega))⟩
 case hIx => exact fun _ _ _ _ h _ => h.elim
 case h0 => exact ⟨hbx, hb0⟩
 case hAx =>
  rintro pre x a' A A' ⟨hx, rfl⟩ hl hw
  exact ⟨hx, rfl⟩
 case assign =>
  intro pre x W K hl hi hx hK
  refine wpIn_skip ?_
  exact hK _ _ (Below.refl _ _) hi ⟨hx, by simp [encI]⟩
 case body =>
  rintro pre x a' W hl ⟨g1, g2⟩ ⟨hx, rfl⟩
  have c1 := g1.cell
  have f1 := g1.frozen
  have hwr : IntKind.i64.wrap ((pre.length : Int) + 1) = ((pre ++ [x]).length : Int) := by rw [IntKind.wrap_i64]; simp; omega
  gi_wp2
  refine ⟨Keep.setCell _ _ (by simp) (by simp <;> omega) _, ?_, g2.setCell (p := ⟨w.heap.size, 0, none⟩) (by simp) _⟩
  have := g1.set (.int .i64 ((pre ++ [x]).length : Int))
  simpa using this
 case done =>
  rintro xs W hS ⟨g1, g2⟩ hl hD
  have c1 := g1.cell
  go_wp2
  refine ret_mark (v := .int .i64 (tot 1024 W0)) hD (fun w' hw' => ?_)
  have wp : Wrote [Wa.heap.size] W w' := by rw [hw']; exact Wrote.putObj _ _ (by simp) _
  have d4 := (wp.boxed (by simp; omega) g1).cell
  exact ⟨by simp [results, Tryz.results170, go_sem, d4], rfl, g2.trans (wp.below g2.size (by simp; omega))⟩
 case stop => exact fun _ _ _ _ h _ _ => h.elim
theorem Inb.below {w w' : World} {b s : Nat} {most : Int} {W : Nat -> Nat} (h : Inb w b s most W) (hb : Below w.heap.size w w') : Inb w' b s most W := ⟨h.box.below hb, h.set.below hb⟩
theorem in_Len (b s : Nat) (most : Int) (W : Nat -> Nat) (ids : List Nat) (w : World) (hI : Inb w b s most W) (hS : SetIs W ids) (hT : TzAt w) :
  Calls Tryz.prog 112 #[.pointer (some ⟨b, 0, none⟩)] w fun e w' => e = .returned (.int .i64 ids.length) /\ Below w.heap.size w w' := by
 have CN := in_none w b s most hI.at
 have k0 := hI.at.set
 have CE := in_each s w
 have CC := in_count s W (w.alloc (.cells #[.pointer (some ⟨s, 0, none⟩)] 178)) w.heap.size (hI.set.alloc _) hS.lt (hT.below ((Below.refl _ w).alloc (Nat.le_refl _) _)) (Boxed.new w 178 (.pointer (some ⟨s, 0, none⟩)))
 rw [hS.tot] at CC
 go_enter Tryz.func112, Tryz.ntmps112
 go_wp2_with (first
  | (go_at_call 109; refine CN.mono ?_; rintro e w1 ⟨rfl, rfl⟩)
  | (go_at_call 127; refine CE.mono ?_; rintro e w1 ⟨rfl, rfl⟩)
  | (go_at_call 170; refine CC.mono ?_; rintro e w1 ⟨rfl, hb⟩))
 go_ret
 exact ⟨rfl, ((Below.refl _ w).alloc (Nat.le_refl _) _).trans (hb.mono (by simp))⟩
structure InPost (b s : Nat) (most : Int) (W : Nat -> Nat) (ids : List Nat) (w' : World) : Prop where
 inb : Inb w' b s most W
 set : SetIs W ids
theorem in_Come (b s : Nat) (most : Int) (W : Nat -> Nat) (ids : List Nat) (z : Int) (w : World) (hI : Inb w b s most W) (hS : SetIs W ids) (hT : TzAt w) (h0 : 1 <= z) (h1 : z <= 65535) (hg : s ≠ 1) (hnot : z.toNat ∉ ids) (hl : (ids.length : Int) < most) :
  Calls Tryz.prog 54 #[.pointer (some ⟨b, 0, none⟩), .int .i64 z] w fun e w' => e = .returned (.tuple #[.bool true, .int .i64 0]) /\ Inb w' b s most (tog W z.toNat) /\ Wrote [s] w w' := by
 have CN := in_none w b s most hI.at
 have CM := in_may z w
 have hm : mayI z = true := by simp [mayI, h0, h1]
 rw [hm] at CM
 have CH := in_Has b s most W ids z w hI hS h0 h1
 have hd : decide (z.toNat ∈ ids) = false := decide_eq_false hnot
 rw [hd] at CH
 obtain ⟨n, hn⟩ : ∃ n : Int, (ids.length : Int) = n := ⟨_, rfl⟩
 have CL := hid fun (w1 : World) (hb : Below w.heap.size w w1) => in_Len b s most W ids w1 (hI.below hb) hS (hT.below hb)
 rw [hn] at CL
 have CT := hid fun (w1 : World) (hI : Inb w1 b s most W) => in_turn b s most W z w1 hI hS.lt h0 h1
 have kd : decide (most <= n) = false := decide_eq_false (by omega)
 clear hd hn hl;go_enter Tryz.func54, Tryz.ntmps54
 go_wp2
 refine wp_scope_straight ?_
 go_wp2_with (first
  | (go_at_call 109; refine CN.mono ?_; rintro e w1 ⟨rfl, rfl⟩)
  | (go_at_call 110; refine CM.mono ?_; rintro e w1 ⟨rfl, rfl⟩)
  | (go_at_call 111; refine CH.mono ?_; rintro e w1 ⟨rfl, hb⟩))
 have kb : w1.cell? ⟨b, 1, none⟩ = some (.int .i64 most) := (hI.below hb).at.most
 clear CH CM CN;refine regionQ [(1000, fun w' => w'.cell? ⟨b, 1, none⟩ = some (.int .i64 most))] (by kernel_rfl) ⟨by go_simp, trivial⟩ fun KQ hKQ => ?_
 refine tQ [0, 2] ?_;refine nQ 3 ?_;refine tQ [4] ?_;refine lQ 5 0 ?_;refine sQ 1 fun K hK => ?_;simp only [GO];go_simp;refine (CL.out _ hb.drew).mono ?_
 rintro e w2 ⟨rfl, hb2⟩
 replace hb2 := hb.trans ((undrew hb2).mono hb.size)
 refine hK _ _ ⟨⟨fun _ => (hI.below hb2).at.most, trivial⟩, ?_⟩
 clear hK K;refine tQ [6] ?_;refine dQ (hKQ.out _ _ ?_);clear hKQ KQ;go_wp2_with (go_at_call 113; refine (CT.out _ (hI.below hb2)).mono ?_; rintro e w3 ⟨rfl, hi3, hw3⟩)
 simp only [Exit.noGoto_ret]
 go_returns
 exact ⟨rfl, hi3, (Wrote.of_below hb2).trans hw3⟩
theorem in_Go (b s : Nat) (most : Int) (W : Nat -> Nat) (ids : List Nat) (z : Int) (w : World) (hI : Inb w b s most W) (hS : SetIs W ids) (h0 : 1 <= z) (h1 : z <= 65535) (hin : z.toNat ∈ ids) :
  Calls Tryz.prog 193 #[.pointer (some ⟨b, 0, none⟩), .int .i64 z] w fun e w' => e = .returned (.tuple #[.bool true, .int .i64 0]) /\ Inb w' b s most (tog W z.toNat) /\ Wrote [s] w w' := by
 have CN := in_none w b s most hI.at
 have CM := in_may z w
 have hm : mayI z = true := by simp [mayI, h0, h1]
 rw [hm] at CM
 have CH := in_Has b s most W ids z w hI hS h0 h1
 have hd : decide (z.toNat ∈ ids) = true := decide_eq_true hin
 rw [hd] at CH
 have CT := hid fun (w1 : World) (hI : Inb w1 b s most W) => in_turn b s most W z w1 hI hS.lt h0 h1
 clear hd;go_enter Tryz.func193, Tryz.ntmps193
 go_wp2_with (first
  | (go_at_call 109; refine CN.mono ?_; rintro e w1 ⟨rfl, rfl⟩)
  | (go_at_call 110; refine CM.mono ?_; rintro e w1 ⟨rfl, rfl⟩)
  | (go_at_call 111; refine CH.mono ?_; rintro e w1 ⟨rfl, hb⟩)
  | (go_at_call 113; refine (CT.out _ (hI.below hb)).mono ?_; rintro e w3 ⟨rfl, hi3, hw3⟩))
 go_returns
 exact ⟨rfl, hi3, (Wrote.of_below hb).trans hw3⟩
end
section
/-! ### Words on memory, no program in sight -/
structure WT (T : TypeId) (w w' : World) : Prop where
 size : w.heap.size <= w'.heap.size
 block : ∀ k, k < w.heap.size -> (∀ cs f, w.heap[k]? ≠ some (.cells cs T f)) -> w'.heap[k]? = w.heap[k]?
theorem WT.of_below {T : TypeId} {w w' : World} (h : Below w.heap.size w w') : WT T w w' := ⟨h.size, fun k hk _ => h.block k hk⟩
theorem WT.set {T : TypeId} {w : World} {b : Nat} {cs : Array Value} (h : Blk w b cs T) (j : Nat) (v : Value) : WT T w (w.setCell ⟨b, j, none⟩ v) :=
 ⟨by simp [World.setCell], fun k _ hn => Below.heap_setCell _ _ _ _ (fun e => hn cs (0, 0) (by rw [e]; exact h))⟩
theorem WT.row {base : Nat} {e : TypeId} {size : Nat} {v : Value} {n : Nat} {xs : List Value} {w w' : World} (h : w.ownsRow base e size v n xs) (hg : w.grownBy w' v.ownBlock) : WT e w w' :=
 ⟨hg.size, fun k hk hn => hg.block k hk (fun he => by
  obtain ⟨_, ⟨rfl, _⟩ | ⟨g, cap, cur, rfl, _, hh, _⟩⟩ := h
  ·simp [Value.ownBlock] at he
  ·simp only [Value.ownBlock, Option.some.injEq] at he
   exact hn cur (0, 0) (by rw [he]; exact hh))⟩
theorem Blk.wt {T T' : TypeId} {w w' : World} {b : Nat} {cs : Array Value} (h : Blk w b cs T') (hw : WT T w w') (ht : T' ≠ T) : Blk w' b cs T' :=
 h.keep (hw.block b h.lt (fun cs' f he => by unfold Blk at h; rw [h] at he; cases he; exact ht rfl))
theorem row_wt {T e : TypeId} {w w' : World} {base : Nat} {size : Nat} {v : Value} {n : Nat} {xs : List Value} (h : w.ownsRow base e size v n xs) (hw : WT T w w') (ht : e ≠ T) : w'.ownsRow base e size v n xs := by
 obtain ⟨hl, hx | ⟨g, cap, cur, rfl, hb, hh, hx⟩⟩ := h
 ·exact ⟨hl, .inl hx⟩
 ·exact ⟨hl, .inr ⟨g, cap, cur, rfl, hb, (Blk.wt (b := g) hh hw ht), hx⟩⟩
def blk (v : Value) : List Nat := v.ownBlock.toList
theorem mem_blk {v : Value} {k : Nat} : k ∈ blk v ↔ v.ownBlock = some k := by simp [blk]
structure Stp (F F' : List Nat) (w w' : World) : Prop where
 wrote : Wrote F w w'
 sub : ∀ x ∈ F', x ∈ F \/ w.heap.size <= x
theorem Stp.refl (F : List Nat) (w : World) : Stp F F w w := ⟨Wrote.refl _ _, fun _ h => .inl h⟩
theorem Stp.trans {F F' F'' : List Nat} {a b c : World} (h : Stp F F' a b) (k : Stp F' F'' b c) : Stp F F'' a c :=
 ⟨⟨k.wrote.os.trans h.wrote.os, k.wrote.tape.trans h.wrote.tape, k.wrote.output.trans h.wrote.output, Nat.le_trans h.wrote.size k.wrote.size, fun i hi hm =>
   (k.wrote.block i (Nat.lt_of_lt_of_le hi h.wrote.size) (fun hx => (h.sub i hx).elim hm (fun hg => by omega))).trans (h.wrote.block i hi hm)⟩,
 fun x hx => (k.sub x hx).elim (h.sub x) (fun hg => .inr (Nat.le_trans h.wrote.size hg))⟩
theorem Stp.below {F : List Nat} {a b : World} (h : Below a.heap.size a b) : Stp F F a b := ⟨Wrote.of_below h, fun _ h => .inl h⟩
theorem Stp.size {F F' : List Nat} {a b : World} (h : Stp F F' a b) : a.heap.size <= b.heap.size := h.wrote.size
theorem Stp.not {F F' : List Nat} {a b : World} (h : Stp F F' a b) {x : Nat} (hx : x ∉ F) (hl : x < a.heap.size) : x ∉ F' := fun hm => (h.sub x hm).elim hx (fun hg => by omega)
section
variable {P : Program} {w : World} {t e : TypeId} {z : Value} {size bytes : Nat}
theorem run_append2 (ty : TypeId) (E : ElemT P t e z size bytes) (hsz : 0 < size) (base : Nat) (v : Value) (n : Nat) (xs : List Value) (hown : w.ownsRow base e size v n xs)
  (a : Addr) (news : List Value) (hl : news.length = size) (hnews : ∀ j u, news[j]? = some u -> w.cell? (a.add j) = some u) (h1 : ∀ u ∈ news, u.oneCell' = true)
  (h63 : n < 100000000) (hbytes : (n + 1) * bytes <= 140737488355328) (hbase : base <= w.heap.size) :
  ∃ v' w', (Builtin.append_ #[t, t] ty #[v, .slice (some a) 1 1]).run P w = .ok v' w' /\ w'.ownsRow base e size v' (n + 1) (xs ++ news) /\ w.grownBy w' v.ownBlock /\ (∀ k, v'.ownBlock = some k -> v.ownBlock = some k \/ w.heap.size <= k) := by
 obtain ⟨i, hi, hz0, hz1, hz2⟩ := info_parts E.info
 have hl' : news.length = 1 * size := by omega
 have hm : n + 1 <= maxLen := by unfold maxLen; omega
 obtain ⟨v', w', hr, h2, h3, _⟩ := run_append_own (P := P) w base t ty e i z size bytes E.ht hi hz0 hz1 hz2 E.hzs hsz v n xs hown a 1 1 news hl' hnews h1 hm hbytes hbase
 refine ⟨v', w', hr, h2, h3, fun k hk => ?_⟩
 have hl2 : news.length = 1 * i.size := by rw [hz1]; exact hl'
 rcases hown.2 with ⟨rfl, rfl⟩ | ⟨g, cap, cur, rfl, hbg, hg, hnc, hcm, hcs, htake⟩
 ·have hr2 := run_append_nil (P := P) w t ty e i z E.ht hi hz0 a 1 1 news hl2 hnews (by omega) (by omega) (by rw [hz2]; simp at hbytes; omega)
  rw [hr] at hr2
  cases hr2
  simp [Value.ownBlock] at hk
  exact .inr (by omega)
 ·by_cases hroom : n + 1 <= cap
  ·have hfit : n * i.size + news.length <= cur.size := by rw [hl', hcs, hz1, <- Nat.add_mul]; exact Nat.mul_le_mul_right _ hroom
   have hr2 := run_append_room (P := P) w t ty e i E.ht hi g n cap cur hg a 1 1 news hl2 hnews h1 hroom hfit
   rw [hr] at hr2
   cases hr2
   exact .inl hk
  ·have holds : ∀ j u, xs[j]? = some u -> w.cell? ((⟨g, 0, none⟩ : Addr).add j) = some u := hown.cells (g := g) rfl
   have hr2 := run_append_grow (P := P) w t ty e i z E.ht hi hz0 ⟨g, 0, none⟩ n cap xs (by rw [hz1]; exact hown.1) holds a 1 1 news hl2 hnews (by omega) (by unfold maxLen at hm; omega) (growslice_fits (by omega) (by rw [hz2]; exact hbytes))
   rw [hr] at hr2
   cases hr2
   simp [Value.ownBlock] at hk
   exact .inr (by omega)
theorem append_grp {ops : Array Oper} {rest : List Oper} {o : Oper} {a : Act} {Q : Exit -> Act -> World -> Prop} (hgd : o.guard = none) (s x : Operand)
  (ho : o.op = .call { callee := .builtin .append, args := #[s, x], argTypes := #[t, t] }) (E : ElemT P t e z size bytes) (hsz : 0 < size)
  (base : Nat) (v : Value) (n : Nat) (xs : List Value) (hs : a.eval s = v) (hown : w.ownsRow base e size v n xs) (g : Nat) (news : List Value) (T : TypeId) (hx : a.eval x = .slice (some ⟨g, 0, none⟩) 1 1) (hg : Blk w g news.toArray T) (hl : news.length = size) (h1 : ∀ u ∈ news, u.oneCell' = true)
  (h63 : n < 100000000) (hbytes : (n + 1) * bytes <= 140737488355328) (hbase : base <= w.heap.size)
  (h : ∀ v' w', w'.ownsRow base e size v' (n + 1) (xs ++ news) -> w.grownBy w' v.ownBlock -> (∀ k, v'.ownBlock = some k -> v.ownBlock = some k \/ w.heap.size <= k) -> wpList P ops Q rest (a.put o.dst v') w') : wpList P ops Q (o :: rest) a w := by
 refine wpList_plain hgd fun K hK => ?_
 obtain ⟨v', w', hr, h2, h3, h4⟩ := run_append2 (P := P) (w := w) o.type E hsz base v n xs hown ⟨g, 0, none⟩ news hl (fun j u hj => by
  have := hg.cell j
  simp only [List.getElem?_toArray] at this
  rw [hj] at this
  by_cases h0 : j = 0
  ·subst h0; simpa [Addr.add] using this
  ·simpa [Addr.add, h0] using this) h1 h63 hbytes hbase
 unfold Oper.wp execOp
 simp only [ho, resolve, invoke, builtin, Sem.run_bind, Sem.run_pure, Result.andThen_ok, List.map_toArray, List.map_cons, List.map_nil, hs, hx, hr]
 exact hK _ _ (h v' w' h2 h3 h4)
end
/-! ### An outbox -/
structure PackV where
 kind : Int
 dup : Bool
 retain : Bool
 qos : Int
 topic : List UInt8
 body : List UInt8
 id : Int
def PackV.cells (p : PackV) : List Value := [.int .i64 p.kind, .bool p.dup, .bool p.retain, .int .i64 p.qos, .string ⟨p.topic.toArray⟩, .string ⟨p.body.toArray⟩, .int .i64 p.id, .string ⟨#[]⟩, .bool false, .int .i64 0, .bool false,
 .string ⟨#[]⟩, .string ⟨#[]⟩, .int .i64 0, .bool false, .bool false, .bool false, .string ⟨#[]⟩, .string ⟨#[]⟩, .bool false, .int .i64 0, .slice none 0 0, .slice none 0 0, .slice none 0 0]
structure ChangeV where
 drop : Bool
 row : RowV
def ChangeV.cells (c : ChangeV) : List Value := .bool c.drop :: c.row.vals.toList
theorem ePack : ElemT Tryz.prog 35 81 (.agg (PackV.cells ⟨0, false, false, 0, [], [], 0⟩).toArray) 24 280 := ⟨Tryz.underlying35, by kernel_rfl, by kernel_rfl⟩
theorem eChg : ElemT Tryz.prog 36 115 (.agg (ChangeV.cells ⟨false, ⟨0, [], 0, 0, [], [], 0, false, 0⟩⟩).toArray) 10 104 := ⟨Tryz.underlying36, by kernel_rfl, by kernel_rfl⟩
theorem eRowP : ElemT Tryz.prog 121 126 (.pointer none) 1 8 := ⟨Tryz.underlying121, by kernel_rfl, by kernel_rfl⟩
structure OS where
 client : List UInt8
 window : Int
 room : Int
 seq : Int
 id : Int
 l : List RowV
def idsOf (l : List RowV) : List Nat := (l.filter fun r => decide (r.stage ≠ 1)).map fun r => r.id.toNat
structure OS.OK (s : OS) : Prop where
 win : 1 <= s.window /\ s.window <= 100
 room : s.room <= 1000 /\ (s.l.length : Int) <= s.room
 seq : 0 <= s.seq /\ s.seq <= 4611686018427387905
 id : 1 <= s.id /\ s.id <= 65535
 cl : s.client.length <= 23
 ids : ∀ r ∈ s.l, r.stage ≠ 1 -> 1 <= r.id /\ r.id <= 65535
 nodup : (idsOf s.l).Nodup
 under : ((idsOf s.l).length : Int) <= s.window
structure Lay where
 p : Nat
 ib : Nat
 sb : Nat
 vl : Value
 vp : Value
 vc : Value
 rb : List Nat
 W : Nat -> Nat
def Lay.foot (L : Lay) : List Nat := L.p :: L.ib :: L.sb :: (blk L.vl ++ blk L.vp ++ blk L.vc ++ L.rb)
def ptrs (rb : List Nat) : List Value := rb.map fun b => .pointer (some ⟨b, 0, none⟩)
def boxCells (L : Lay) (s : OS) : Array Value := #[.pointer (some ⟨L.ib, 0, none⟩), .string ⟨s.client.toArray⟩, .int .i64 s.window, .int .i64 s.room, .int .i64 s.seq, .int .i64 s.id, L.vl, L.vp, L.vc]
structure OB (w : World) (B : Nat) (L : Lay) (s : OS) (ps : List PackV) (cs : List ChangeV) : Prop where
 base : B <= w.heap.size
 box : Blk w L.p (boxCells L s) 123
 inb : Inb w L.ib L.sb 100 L.W
 set : SetIs L.W (idsOf s.l)
 rows : w.ownsRow 0 126 1 L.vl s.l.length (ptrs L.rb)
 len : L.rb.length = s.l.length
 cells : ∀ (i b : Nat) (r : RowV), L.rb[i]? = some b -> s.l[i]? = some r -> Blk w b r.vals 33
 nodup : L.rb.Nodup
 packs : w.ownsRow B 81 24 L.vp ps.length (ps.flatMap PackV.cells)
 chgs : w.ownsRow B 115 10 L.vc cs.length (cs.flatMap ChangeV.cells)
 tz : TzAt w
 gg : 1 ∉ L.foot
 ok : s.OK
theorem OB.below {w w' : World} {B : Nat} {L : Lay} {s : OS} {ps : List PackV} {cs : List ChangeV} (h : OB w B L s ps cs) (hb : Below w.heap.size w w') : OB w' B L s ps cs :=
 ⟨Nat.le_trans h.base hb.size, h.box.below hb, h.inb.below hb, h.set, ownsRow_below h.rows hb, h.len, fun i b r h1 h2 => (h.cells i b r h1 h2).below hb, h.nodup, ownsRow_below h.packs hb, ownsRow_below h.chgs hb, h.tz.below hb, h.gg, h.ok⟩
theorem OB.alloc {w : World} {B : Nat} {L : Lay} {s : OS} {ps : List PackV} {cs : List ChangeV} (h : OB w B L s ps cs) (o : Obj) : OB (w.alloc o) B L s ps cs := h.below ((Below.refl _ _).alloc (Nat.le_refl _) o)
theorem OB.drew {w : World} {B : Nat} {L : Lay} {s : OS} {ps : List PackV} {cs : List ChangeV} (h : OB w B L s ps cs) : OB w.drew B L s ps cs := h.below (Below.refl _ w).drew
theorem blk_lt {w : World} {base : Nat} {e : TypeId} {size : Nat} {v : Value} {n : Nat} {xs : List Value} (h : w.ownsRow base e size v n xs) {x : Nat} (hx : x ∈ blk v) : x < w.heap.size := (h.lt x (mem_blk.1 hx)).2
theorem OB.lt {w : World} {B : Nat} {L : Lay} {s : OS} {ps : List PackV} {cs : List ChangeV} (h : OB w B L s ps cs) : ∀ x ∈ L.foot, x < w.heap.size := by
 intro x hx
 simp only [Lay.foot, List.mem_cons, List.mem_append] at hx
 rcases hx with rfl | rfl | rfl | ((hx | hx) | hx) | hx
 ·exact h.box.lt
 ·exact h.inb.box.lt
 ·exact h.inb.set.lt
 ·exact blk_lt h.rows hx
 ·exact blk_lt h.packs hx
 ·exact blk_lt h.chgs hx
 ·obtain ⟨i, hi⟩ := List.getElem?_of_mem hx
  have hlt := (List.getElem?_eq_some_iff.1 hi).1
  rw [h.len] at hlt
  exact (h.cells i x _ hi (List.getElem?_eq_getElem hlt)).lt
end
end Go.Proofs.YtoinabapaeebfaaGreatDoor
