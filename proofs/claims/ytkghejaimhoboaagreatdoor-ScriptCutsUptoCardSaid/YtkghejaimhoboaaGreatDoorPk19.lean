/- Parts of the proof of ScriptCuts: contracts of functions that it reaches, and plain lemmas. No condition of their own. -/
import Derived.Test.YtkghejaimhoboaaGreatDoorPk18
import Derived.Test.YtkghejaimhoboaaGreatDoorPk06
import Derived.Test.YtkghejaimhoboaaGreatDoorPk12
import Derived.Test.YtkghejaimhoboaaGreatDoorPk11
import Derived.Test.YtkghejaimhoboaaGreatDoorPk10
set_option linter.unusedSimpArgs false
set_option linter.unusedVariables false
set_option maxRecDepth 100000
set_option maxHeartbeats 8000000
namespace Go.Proofs.YtkghejaimhoboaaGreatDoor
open Go.RowKit Go.Shelf
section
theorem runesL_len (s : List UInt8) (p : Nat) : (runesL s p).1.length <= s.length := by
 have key : ∀ f (s : List UInt8) p, (runesF f s p).1.length <= f := by
  intro f
  induction f with
  | zero => intros; simp [runesF]
  | succ f ih =>
   intro s p
   unfold runesF
   split
   ·simp
   ·split
    ·simp
    ·have := ih (s.drop (firstF s).2) (p + (firstF s).2)
     simp only [List.length_cons]
     omega
 exact key _ _ _
theorem ChainU.len {s : List UInt8} {p : Nat} {pre : List (Nat × Nat)} {s' : List UInt8} {p' : Nat} (h : ChainU s p pre s' p') : pre.length <= s.length := by
 have h1 := h.runes
 have h2 := runesL_len s p
 rw [h1] at h2
 simp at h2
 omega
theorem RuneNx.len {s : List UInt8} {pre : List (Nat × Nat)} {x : Nat × Nat} {W : World} (h : RuneNx s pre x W) : pre.length <= s.length := by
 obtain ⟨s', p', hch, _⟩ := h
 exact hch.len
end
section
def stageOK (r : RowV) : Prop := r.stage = 1 /\ r.id = 0 \/ (1 <= r.id /\ r.id <= 65535) /\ (r.stage = 2 \/ r.stage = 3 /\ r.qos = 2)
end
section
def isR (a b : RowV) : Bool :=
 if a.kind = b.kind then
  if a.kind = 1 then decide (a.client = b.client) else if a.kind = 2 then decide (a.client = b.client) && decide (a.topic = b.topic) else if a.kind = 3 then decide (a.client = b.client) && decide (a.seq = b.seq) else decide (a.client = b.client) && decide (a.id = b.id)
 else false
def kindOK (r : RowV) : Prop := r.kind = 1 \/ r.kind = 2 \/ r.kind = 3 \/ r.kind = 4
end
section
section
variable {P : Program} {w : World} {t e : TypeId} {z : Value} {size bytes : Nat}
end
def applyR (l : List RowV) (c : ChangeV) : Option (List RowV) :=
 let k := idxOf (fun x => isR x c.row) l
 if c.drop = true /\ k < 0 then none else some ((if 0 <= k then l.eraseIdx k.toNat else l) ++ if c.drop = true then [] else [c.row])
def appliesR : List RowV -> List ChangeV -> Option (List RowV)
 | l, [] => some l
 | l, c :: cs => (applyR l c).bind fun l' => appliesR l' cs
theorem appliesR_append (cs ds : List ChangeV) : ∀ l, appliesR l (cs ++ ds) = (appliesR l cs).bind fun l' => appliesR l' ds := by
 induction cs with
 | nil => intro l; rfl
 | cons c cs ih =>
  intro l
  simp only [List.cons_append, appliesR]
  cases applyR l c with
  | none => rfl
  | some l' => exact ih l'
theorem ChangeV.cllen (c : ChangeV) : c.cells.length = 10 := rfl
end
end Go.Proofs.YtkghejaimhoboaaGreatDoor
