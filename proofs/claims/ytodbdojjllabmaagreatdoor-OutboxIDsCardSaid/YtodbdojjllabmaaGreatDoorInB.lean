/- Contracts of package inbox (part 2): where an inbox lies; New. -/
import Derived.Test.YtodbdojjllabmaaGreatDoorRecE
import Derived.Test.YtodbdojjllabmaaGreatDoorPop
import Derived.Handy
import Derived.Test.YtodbdojjllabmaaGreatDoorRange
namespace Go.Proofs.YtodbdojjllabmaaGreatDoor
open Go.RowKit Go.Shelf

def mayI (id : Int) : Bool := decide (1 ≤ id) && decide (id ≤ 65535)

set_option maxRecDepth 100000 in
set_option maxHeartbeats 400000 in
theorem in_may (id : Int) (w : World) :
    Calls Tryz.prog 51 #[.int .i64 id] w fun e w' => e = .returned (.bool (mayI id)) ∧ w = w' := by
  by_cases h : 1 ≤ id
  · go_enter Tryz.func51, Tryz.ntmps51
    go_wp2
    go_ret
    simp [h, mayI]
  · have d : decide (1 ≤ id) = false := decide_eq_false h
    go_enter Tryz.func51, Tryz.ntmps51
    go_wp2
    go_ret
    simp [d, mayI]

/-- An inbox lies at block b: its set at block s, its bound. -/
structure InAt (w : World) (b s : Nat) (most : Int) : Prop where
  set : w.cell? ⟨b, 0, none⟩ = some (.pointer (some ⟨s, 0, none⟩))
  most : w.cell? ⟨b, 1, none⟩ = some (.int .i64 most)

set_option maxRecDepth 100000 in
set_option maxHeartbeats 400000 in
theorem in_none (w : World) (b s : Nat) (most : Int) (h : InAt w b s most) :
    Calls Tryz.prog 50 #[.pointer (some ⟨b, 0, none⟩)] w fun e w' => e = .returned (.bool false) ∧ w = w' := by
  have h0 := h.set
  go_enter Tryz.func50, Tryz.ntmps50
  go_wp2
  go_ret
  simp


/-- Block b holds just these cells. -/
def Blk (w : World) (b : Nat) (cs : Array Value) (T : TypeId) : Prop := w.heap[b]? = some (.cells cs T (0, 0))

section
variable {w : World} {b : Nat} {cs : Array Value} {T : TypeId}
theorem Blk.lt (h : Blk w b cs T) : b < w.heap.size := (Array.getElem?_eq_some_iff.1 h).1
theorem Blk.cell (h : Blk w b cs T) (j : Nat) : w.cell? ⟨b, j, none⟩ = cs[j]? := by
  unfold Blk at h
  simp [World.cell?, h]
theorem Blk.frozen (h : Blk w b cs T) (j : Nat) : w.frozen? ⟨b, j, none⟩ = false := by
  unfold Blk at h
  simp [World.frozen?, h]
theorem Blk.keep {w' : World} (h : Blk w b cs T) (hk : w'.heap[b]? = w.heap[b]?) : Blk w' b cs T := hk.trans h
theorem Blk.alloc (h : Blk w b cs T) (o : Obj) : Blk (w.alloc o) b cs T := h.keep (Below.heap_alloc _ _ _ h.lt)
theorem Blk.drew (h : Blk w b cs T) : Blk w.drew b cs T := h
theorem Blk.new (w : World) (cs : Array Value) (T : TypeId) : Blk (w.alloc (.cells cs T)) w.heap.size cs T := World.alloc_heap_new w _
theorem Blk.set (h : Blk w b cs T) (j : Nat) (v : Value) : Blk (w.setCell ⟨b, j, none⟩ v) b (cs.setIfInBounds j v) T := by
  have := h.lt
  unfold Blk at h ⊢
  simp [World.setCell, Array.getElem?_modify, h]
theorem Blk.set_ne (h : Blk w b cs T) (p : Addr) (hp : p.block ≠ b) (v : Value) : Blk (w.setCell p v) b cs T := h.keep (Below.heap_setCell _ _ _ _ (Ne.symm hp))
theorem Blk.putObj (h : Blk w b cs T) (l : Nat) (hl : l ≠ b) (o : Obj) : Blk (w.putObj l o) b cs T := h.keep (World.putObj_heap_other (Ne.symm hl))
theorem Blk.wrote {M : List Nat} {w' : World} (h : Blk w b cs T) (hw : Wrote M w w') (hb : b ∉ M) : Blk w' b cs T := h.keep (hw.block b h.lt hb)
theorem Blk.below {w' : World} (h : Blk w b cs T) (hw : Below w.heap.size w w') : Blk w' b cs T := h.keep (hw.block b h.lt)
theorem Blk.ne {b' : Nat} {cs' : Array Value} {T' : TypeId} (h : Blk w b cs T) (h' : Blk w b' cs' T') (ht : T ≠ T') : b ≠ b' := by
  intro e; subst e; unfold Blk at h h'; rw [h] at h'; cases h'; exact ht rfl
end

/-- An inbox at block b, its set at block s. -/
structure Inb (w : World) (b s : Nat) (most : Int) (W : Nat → Nat) : Prop where
  box : Blk w b #[.pointer (some ⟨s, 0, none⟩), .int .i64 most] 111
  set : Blk w s (setCells W) 109
theorem Inb.at {w : World} {b s : Nat} {most : Int} {W : Nat → Nat} (h : Inb w b s most W) : InAt w b s most := ⟨(h.box.cell 0).trans rfl, (h.box.cell 1).trans rfl⟩
theorem Inb.wrote {w w' : World} {b s : Nat} {most : Int} {W : Nat → Nat} (h : Inb w b s most W) {M : List Nat} (hw : Wrote M w w') (hb : b ∉ M) (hs : s ∉ M) : Inb w' b s most W := ⟨h.box.wrote hw hb, h.set.wrote hw hs⟩

set_option maxRecDepth 100000 in
set_option maxHeartbeats 400000 in
theorem in_New (most : Int) (w : World) (h1 : 1 ≤ most) (h2 : most ≤ 1000) :
    Calls Tryz.prog 25 #[.int .i64 most] w fun e w' => e = .returned (.tuple #[.pointer (some ⟨w.heap.size + 1, 0, none⟩), .int .i64 0]) ∧ Inb w' (w.heap.size + 1) w.heap.size most (fun _ => 0) ∧ Below w.heap.size w w' := by
  have d1 : decide (most < 1) = false := decide_eq_false (by omega)
  have d2 : decide (most > 1000) = false := decide_eq_false (by omega)
  go_enter Tryz.func25, Tryz.ntmps25
  go_wp2
  go_returns
  have hz : Tryz.zeroCells109 = setCells (fun _ => 0) := by rw [setCells_zero]; kernel_rfl
  rw [hz]
  exact ⟨rfl, ⟨by simpa using Blk.new (w.alloc _) _ _, (Blk.new w _ _).alloc _⟩, ((Below.refl _ w).alloc (Nat.le_refl _) _).alloc (by simp) _⟩
end Go.Proofs.YtodbdojjllabmaaGreatDoor
