/- Parts of the proof of ScriptSame: contracts of functions that it reaches, and plain lemmas. No condition of their own. -/
import Derived.Test.YtkghejaimhoboaaGreatDoorPk01
import Derived.Test.YtkghejaimhoboaaGreatDoorProg
import Derived.Laws.Bits128
set_option linter.unusedSimpArgs false
set_option linter.unusedVariables false
set_option maxRecDepth 100000
set_option maxHeartbeats 8000000
namespace Go.Proofs.YtkghejaimhoboaaGreatDoor
open Go.RowKit Go.Shelf
section
def mayL (n : Int) : Bool := decide (0 <= n) && decide (n <= 268435455)
end
section
def sizeL (n : Int) : Nat := if mayL n = false then 0 else if n < 128 then 1 else if n < 16384 then 2 else if n < 2097152 then 3 else 4
theorem mayL_iff (n : Int) : mayL n = true ↔ 0 <= n /\ n <= 268435455 := by simp [mayL]
end
section
def rawL : Nat -> Nat -> List UInt8
 | 0, _ => []
 | s + 1, n => (if n < 128 then UInt8.ofNat n else UInt8.ofNat (n % 128 + 128)) :: rawL s (n / 128)
def byteL (n : Nat) : UInt8 := if n < 128 then UInt8.ofNat n else UInt8.ofNat (n % 128 + 128)
theorem rawL_len (s n : Nat) : (rawL s n).length = s := by
 induction s generalizing n with
 | zero => rfl
 | succ s ih => simp [rawL, ih]
theorem sizeL_le (n : Int) : sizeL n <= 4 := by unfold sizeL; repeat (split <;> try omega)
theorem Tryz.eByte : ElemT Tryz.prog 22 5 (.int .u8 0) 1 1 := ⟨Tryz.underlying22, by kernel_rfl, rfl⟩
theorem Tryz.infoB : (Tryz.prog.info? 5).map (fun i => (i.zero, i.size, i.bytes)) = some (some (.int .u8 0), 1, 1) := by kernel_rfl
theorem bs_snoc (l : List UInt8) (x : UInt8) : bs (l ++ [x]) = bs l ++ [.int .u8 x.toNat] := by simp [bs]
theorem byteL_int (n : Nat) : ((if n < 128 then n else n % 128 + 128 : Nat) : Int) = ((byteL n).toNat : Int) := by
 unfold byteL; split <;> simp <;> omega
end
section
def takenL : List UInt8 -> Nat
 | [] => 0
 | x :: l => x.toNat % 128 + 128 * takenL l
theorem takenL_snoc (l : List UInt8) (x : UInt8) : takenL (l ++ [x]) = takenL l + 128 ^ l.length * (x.toNat % 128) := by
 induction l with
 | nil => simp [takenL]
 | cons y l ih => 
  simp only [List.cons_append, takenL, ih, List.length_cons, Nat.pow_succ', Nat.mul_add, Nat.mul_assoc]
  omega
theorem takenL_lt (l : List UInt8) : takenL l < 128 ^ l.length := by
 induction l with
 | nil => simp [takenL]
 | cons y l ih => 
  simp only [takenL, List.length_cons, Nat.pow_succ']
  have := Nat.mod_lt y.toNat (show 128 > 0 by omega)
  omega
def readL (l : List UInt8) : Int × Int × Int :=
 let e := idxOf (fun x : UInt8 => decide (x.toNat < 128)) (l.take 4)
 if e < 0 then (if 4 <= l.length then (0, 0, 250) else (0, 0, 0))
 else if sizeL (takenL (l.take (e.toNat + 1))) = e.toNat + 1 then (takenL (l.take (e.toNat + 1)), e + 1, 0) else (0, 0, 250)
end
section
theorem sizeL_nat (z : Nat) (h : z < 268435456) : sizeL (z : Int) = if z < 128 then 1 else if z < 16384 then 2 else if z < 2097152 then 3 else 4 := by
 have hm : mayL (z : Int) = true := (mayL_iff _).2 ⟨by omega, by omega⟩
 simp only [sizeL, hm]
 rw [if_neg (by decide)]
 by_cases h1 : z < 128
 ·rw [if_pos (by omega), if_pos h1]
 ·rw [if_neg (by omega), if_neg h1]
  by_cases h2 : z < 16384
  ·rw [if_pos (by omega), if_pos h2]
  ·rw [if_neg (by omega), if_neg h2]
   by_cases h3 : z < 2097152
   ·rw [if_pos (by omega), if_pos h3]
   ·rw [if_neg (by omega), if_neg h3]
theorem sizeL_last (t k x : Nat) (ht : t < 128 ^ k) (hk : k < 4) (hx : x < 128) : (sizeL ((t + 128 ^ k * x : Nat) : Int) = k + 1) ↔ (x ≠ 0 \/ k = 0) := by
 have hk' : k = 0 \/ k = 1 \/ k = 2 \/ k = 3 := by omega
 rcases hk' with rfl | rfl | rfl | rfl
 all_goals
  simp only [Nat.reducePow, Nat.pow_zero] at ht ⊢
  rw [sizeL_nat _ (by omega)]
  repeat' split
  all_goals (constructor <;> intro _)
  all_goals first | omega | exact Or.inr trivial
end
end Go.Proofs.YtkghejaimhoboaaGreatDoor
