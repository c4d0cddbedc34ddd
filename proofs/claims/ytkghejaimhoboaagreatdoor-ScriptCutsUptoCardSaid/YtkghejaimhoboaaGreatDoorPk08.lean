/- Parts of the proof of ScriptCuts: contracts of functions that it reaches, and plain lemmas. No condition of their own. -/
import Derived.Test.YtkghejaimhoboaaGreatDoorPk01
import Derived.Test.YtkghejaimhoboaaGreatDoorPk07
import Derived.Handy
import Derived.Test.YtkghejaimhoboaaGreatDoorPk03
import Derived.Shelf.Spec.TrailingZeros
import Derived.Test.YtkghejaimhoboaaGreatDoorPk06
import Derived.BigRegionIn
import Derived.RegionIn
set_option linter.unusedSimpArgs false
set_option linter.unusedVariables false
set_option maxRecDepth 100000
set_option maxHeartbeats 8000000
namespace Go.Proofs.YtkghejaimhoboaaGreatDoor
open Go.RowKit Go.Shelf
section
def popN : Nat -> Nat -> Nat
 | 0, _ => 0
 | n + 1, w => w % 2 + popN n (w / 2)
theorem popN_zero (n : Nat) : popN n 0 = 0 := by
 induction n with
 | zero => rfl
 | succ n ih => simp [popN, ih]
theorem xor_half (a b : Nat) : (a ^^^ b) / 2 = a / 2 ^^^ b / 2 := by
 have := Nat.shiftRight_xor_distrib (a := a) (b := b) (i := 1)
 simpa [Nat.shiftRight_succ] using this
theorem xor_low (a b : Nat) : (a ^^^ b) % 2 = a % 2 ^^^ b % 2 := by
 have := Nat.xor_mod_two_pow (a := a) (b := b) (n := 1)
 simpa using this
theorem popN_xor (n w k : Nat) (hk : k < n) : (w.testBit k = true -> popN n (w ^^^ 2 ^ k) + 1 = popN n w) /\ (w.testBit k = false -> popN n (w ^^^ 2 ^ k) = popN n w + 1) := by
 induction n generalizing w k with
 | zero => omega
 | succ n ih =>
  simp only [popN]
  rw [xor_low, xor_half]
  cases k with
  | zero =>
   simp only [Nat.pow_zero, Nat.testBit_zero, decide_eq_true_eq, decide_eq_false_iff_not]
   have : (1 / 2 : Nat) = 0 := rfl
   rw [this, Nat.xor_zero]
   rcases Nat.mod_two_eq_zero_or_one w with h1 | h1 <;> rw [h1] <;> simp <;> omega
  | succ k =>
   have e1 : 2 ^ (k + 1) / 2 = 2 ^ k := by omega
   have e2 : 2 ^ (k + 1) % 2 = 0 := by omega
   rw [e1, e2, Nat.xor_zero]
   have := ih (w / 2) k (by omega)
   rw [Nat.testBit_succ]
   constructor
   ·intro h; have := this.1 h; omega
   ·intro h; have := this.2 h; omega
def tot : Nat -> (Nat -> Nat) -> Nat
 | 0, _ => 0
 | n + 1, W => tot n W + popN 64 (W n)
def tog (W : Nat -> Nat) (n : Nat) : Nat -> Nat := fun i => if i = n / 64 then W i ^^^ 2 ^ (n % 64) else W i
theorem tot_other (W : Nat -> Nat) (n m : Nat) (h : m <= n / 64) : tot m (tog W n) = tot m W := by
 induction m with
 | zero => rfl
 | succ m ih =>
  have : m ≠ n / 64 := by omega
  simp [tot, ih (by omega), tog, this]
theorem tot_tog (W : Nat -> Nat) (n m : Nat) (h : n / 64 < m) : ((W (n / 64)).testBit (n % 64) = true -> tot m (tog W n) + 1 = tot m W) /\ ((W (n / 64)).testBit (n % 64) = false -> tot m (tog W n) = tot m W + 1) := by
 have hk : n % 64 < 64 := Nat.mod_lt _ (by decide)
 have hp := popN_xor 64 (W (n / 64)) (n % 64) hk
 induction m with
 | zero => omega
 | succ m ih =>
  simp only [tot]
  rcases Nat.lt_or_ge (n / 64) m with h1 | h1
  ·have h2 := ih h1
   have h3 : m ≠ n / 64 := by omega
   have h4 : tog W n m = W m := by simp [tog, h3]
   rw [h4]
   constructor
   ·intro h; have := h2.1 h; omega
   ·intro h; have := h2.2 h; omega
  ·have h3 : m = n / 64 := by omega
   have h4 : tog W n m = W m ^^^ 2 ^ (n % 64) := by simp [tog, h3]
   rw [h4, tot_other W n m (by omega)]
   subst h3;constructor
   ·intro h; have := hp.1 h; omega
   ·intro h; have := hp.2 h; omega
structure SetIs (W : Nat -> Nat) (ids : List Nat) : Prop where
 lt : ∀ i, W i < 18446744073709551616
 has : ∀ n, n < 65536 -> (W (n / 64)).testBit (n % 64) = decide (n ∈ ids)
 tot : tot 1024 W = ids.length
theorem tot_zero (m : Nat) : tot m (fun _ => 0) = 0 := by
 induction m with
 | zero => rfl
 | succ m ih => simp [YtkghejaimhoboaaGreatDoor.tot, ih, popN_zero]
theorem SetIs.nil : SetIs (fun _ => 0) [] := ⟨fun _ => by decide, fun n _ => by simp, by simp [tot_zero]⟩
theorem SetIs.perm {W : Nat -> Nat} {l l' : List Nat} (h : SetIs W l) (p : l.Perm l') : SetIs W l' :=
 ⟨h.lt, fun n hn => by rw [h.has n hn]; simp [p.mem_iff], by rw [h.tot, p.length_eq]⟩
theorem tog_lt {W : Nat -> Nat} (h : ∀ i, W i < 18446744073709551616) (n : Nat) : ∀ i, tog W n i < 18446744073709551616 := by
 intro i
 unfold tog
 have hk : n % 64 < 64 := Nat.mod_lt _ (by decide)
 split
 ·exact Nat.xor_lt_two_pow (n := 64) (h i) (Nat.pow_lt_pow_right (by decide) hk)
 ·exact h i
theorem tog_bit (W : Nat -> Nat) (n m : Nat) : (tog W n (m / 64)).testBit (m % 64) = ((W (m / 64)).testBit (m % 64) ^^ decide (m = n)) := by
 unfold tog
 by_cases h : m / 64 = n / 64
 ·rw [if_pos h, Nat.testBit_xor, Nat.testBit_two_pow]
  have : (n % 64 = m % 64) = (m = n) := by
   apply propext
   constructor
   ·intro h2; omega
   ·intro h2; rw [h2]
  simp [this]
 ·rw [if_neg h]
  have : m ≠ n := fun e => h (by rw [e])
  simp [this]
theorem SetIs.come {W : Nat -> Nat} {l : List Nat} (h : SetIs W l) {n : Nat} (hn : n < 65536) (hnot : n ∉ l) : SetIs (tog W n) (n :: l) := by
 have hb : (W (n / 64)).testBit (n % 64) = false := by rw [h.has n hn]; simp [hnot]
 refine ⟨tog_lt h.lt n, fun m hm => ?_, ?_⟩
 ·rw [tog_bit, h.has m hm]
  by_cases e : m = n
  ·subst e; simp [hnot]
  ·simp [e]
 ·rw [(tot_tog W n 1024 (by omega)).2 hb, h.tot]; rfl
theorem SetIs.go {W : Nat -> Nat} {l : List Nat} (h : SetIs W l) {n : Nat} (hn : n < 65536) (hin : n ∈ l) (hd : l.Nodup) : SetIs (tog W n) (l.erase n) := by
 have hb : (W (n / 64)).testBit (n % 64) = true := by rw [h.has n hn]; simp [hin]
 refine ⟨tog_lt h.lt n, fun m hm => ?_, ?_⟩
 ·rw [tog_bit, h.has m hm]
  by_cases e : m = n
  ·subst e; simp [hin, hd.not_mem_erase]
  ·simp [e, List.mem_erase_of_ne e]
 ·have := (tot_tog W n 1024 (by omega)).1 hb
  rw [List.length_erase_of_mem hin]
  rw [h.tot] at this
  have := List.length_pos_of_mem hin
  omega
theorem SetIs.le {W : Nat -> Nat} {l : List Nat} (h : SetIs W l) (i : Nat) : (W i : Int) < 18446744073709551616 := by have := h.lt i; omega
def setCells (W : Nat -> Nat) : Array Value := Array.ofFn fun i : Fin 1024 => .int .u64 (W i)
theorem setCells_zero : setCells (fun _ => 0) = Array.replicate 1024 (.int .u64 0) := by
 apply Array.ext
 ·simp [setCells]
 ·intro i h1 h2
  simp [setCells]
def nxt (z : Int) : Int := z % 65535 + 1
def firstI : Nat -> Int -> List Nat -> Int
 | 0, z, _ => z
 | k + 1, z, ids => if z.toNat ∈ ids then firstI k (nxt z) ids else z
theorem nxt_range (z : Int) : 1 <= nxt z /\ nxt z <= 65535 := by
 have q3 : 0 <= z % 65535 := Int.emod_nonneg _ (by omega)
 have q4 : z % 65535 < 65535 := Int.emod_lt_of_pos _ (by omega)
 unfold nxt; omega
theorem firstI_range (k : Nat) (z : Int) (ids : List Nat) (h : 1 <= z /\ z <= 65535) : 1 <= firstI k z ids /\ firstI k z ids <= 65535 := by
 induction k generalizing z with
 | zero => exact h
 | succ k ih =>
  unfold firstI
  split
  ·exact ih _ (nxt_range z)
  ·exact h
end
section
structure InAt (w : World) (b s : Nat) (most : Int) : Prop where
 set : w.cell? ⟨b, 0, none⟩ = some (.pointer (some ⟨s, 0, none⟩))
 most : w.cell? ⟨b, 1, none⟩ = some (.int .i64 most)
def Blk (w : World) (b : Nat) (cs : Array Value) (T : TypeId) : Prop := w.heap[b]? = some (.cells cs T (0, 0))
section
variable {w : World} {b : Nat} {cs : Array Value} {T : TypeId}
theorem Blk.lt (h : Blk w b cs T) : b < w.heap.size := (Array.getElem?_eq_some_iff.1 h).1
theorem Blk.cell (h : Blk w b cs T) (j : Nat) : w.cell? ⟨b, j, none⟩ = cs[j]? := by
 unfold Blk at h
 simp [World.cell?, h]
theorem Blk.frozen (h : Blk w b cs T) (j : Nat) : w.frozen? ⟨b, j, none⟩ = false := by
 unfold Blk at h
 simp [World.frozen?, h]
theorem Blk.keep {w' : World} (h : Blk w b cs T) (hk : w'.heap[b]? = w.heap[b]?) : Blk w' b cs T := hk.trans h
theorem Blk.alloc (h : Blk w b cs T) (o : Obj) : Blk (w.alloc o) b cs T := h.keep (Below.heap_alloc _ _ _ h.lt)
theorem Blk.drew (h : Blk w b cs T) : Blk w.drew b cs T := h
theorem Blk.new (w : World) (cs : Array Value) (T : TypeId) : Blk (w.alloc (.cells cs T)) w.heap.size cs T := World.alloc_heap_new w _
theorem Blk.set (h : Blk w b cs T) (j : Nat) (v : Value) : Blk (w.setCell ⟨b, j, none⟩ v) b (cs.setIfInBounds j v) T := by
 have := h.lt
 unfold Blk at h ⊢
 simp [World.setCell, Array.getElem?_modify, h]
theorem Blk.putObj (h : Blk w b cs T) (l : Nat) (hl : l ≠ b) (o : Obj) : Blk (w.putObj l o) b cs T := h.keep (World.putObj_heap_other (Ne.symm hl))
theorem Blk.wrote {M : List Nat} {w' : World} (h : Blk w b cs T) (hw : Wrote M w w') (hb : b ∉ M) : Blk w' b cs T := h.keep (hw.block b h.lt hb)
theorem Blk.below {w' : World} (h : Blk w b cs T) (hw : Below w.heap.size w w') : Blk w' b cs T := h.keep (hw.block b h.lt)
theorem Blk.ne {b' : Nat} {cs' : Array Value} {T' : TypeId} (h : Blk w b cs T) (h' : Blk w b' cs' T') (ht : T ≠ T') : b ≠ b' := by
 intro e; subst e; unfold Blk at h h'; rw [h] at h'; cases h'; exact ht rfl
end
structure Inb (w : World) (b s : Nat) (most : Int) (W : Nat -> Nat) : Prop where
 box : Blk w b #[.pointer (some ⟨s, 0, none⟩), .int .i64 most] 308
 set : Blk w s (setCells W) 306
theorem Inb.at {w : World} {b s : Nat} {most : Int} {W : Nat -> Nat} (h : Inb w b s most W) : InAt w b s most := ⟨(h.box.cell 0).trans rfl, (h.box.cell 1).trans rfl⟩
theorem Inb.wrote {w w' : World} {b s : Nat} {most : Int} {W : Nat -> Nat} (h : Inb w b s most W) {M : List Nat} (hw : Wrote M w w') (hb : b ∉ M) (hs : s ∉ M) : Inb w' b s most W := ⟨h.box.wrote hw hb, h.set.wrote hw hs⟩
theorem in_New (most : Int) (w : World) (h1 : 1 <= most) (h2 : most <= 1000) :
  Calls Tryz.prog 226 #[.int .i64 most] w fun e w' => e = .returned (.tuple #[.pointer (some ⟨w.heap.size + 1, 0, none⟩), .int .i64 0]) /\ Inb w' (w.heap.size + 1) w.heap.size most (fun _ => 0) /\ Below w.heap.size w w' := by
 have d1 : decide (most < 1) = false := decide_eq_false (by omega)
 have d2 : decide (most > 1000) = false := decide_eq_false (by omega)
 go_enter Tryz.func226, Tryz.ntmps226
 go_wp2
 go_returns
 have hz : Tryz.zeroCells306 = setCells (fun _ => 0) := by rw [setCells_zero]; kernel_rfl
 rw [hz]
 exact ⟨rfl, ⟨by simpa using Blk.new (w.alloc _) _ _, (Blk.new w _ _).alloc _⟩, ((Below.refl _ w).alloc (Nat.le_refl _) _).alloc (by simp) _⟩
end
section
def TzAt (w : World) : Prop := TabAt 1 Lib.deBruijn64tab w
theorem TzAt.keep {w w' : World} (h : TzAt w) (hk : ∀ p v, p.block = 1 -> w.cell? p = some v -> w'.cell? p = some v) : TzAt w' := fun j hj => hk _ _ rfl (h j hj)
end
section
attribute [local go_sem] Oper.semAt_some
theorem TzAt.block {w w' : World} (h : TzAt w) (hk : w'.heap[1]? = w.heap[1]?) : TzAt w' := by
 refine h.keep fun p v hp hc => ?_
 unfold World.cell? at hc ⊢
 rw [hp] at hc ⊢
 rw [hk]; exact hc
theorem TzAt.lt {w : World} (h : TzAt w) : 1 < w.heap.size := cell_lt (p := ⟨1, 0, none⟩) (h 0 (by decide))
theorem TzAt.below {w w' : World} (h : TzAt w) (hb : Below w.heap.size w w') : TzAt w' := h.block (hb.block _ h.lt)
theorem TzAt.wrote {M : List Nat} {w w' : World} (h : TzAt w) (hb : Wrote M w w') (hM : 1 ∉ M) : TzAt w' := h.block (hb.block _ h.lt hM)
end
section
attribute [local go_sem] Oper.semAt_some
theorem Inb.below {w w' : World} {b s : Nat} {most : Int} {W : Nat -> Nat} (h : Inb w b s most W) (hb : Below w.heap.size w w') : Inb w' b s most W := ⟨h.box.below hb, h.set.below hb⟩
structure InPost (b s : Nat) (most : Int) (W : Nat -> Nat) (ids : List Nat) (w' : World) : Prop where
 inb : Inb w' b s most W
 set : SetIs W ids
end
end Go.Proofs.YtkghejaimhoboaaGreatDoor
