/- Contracts of package records (part 2): may a row be put; may a session's row be. -/
import Derived.Test.YtodbdojjllabmaaGreatDoorRecA
import Derived.Test.YtodbdojjllabmaaGreatDoorShelf
namespace Go.Proofs.YtodbdojjllabmaaGreatDoor
open Go.RowKit Go.Shelf

/-- What tells whether one of + and # is in a text. -/
def anyR (s : List UInt8) : Bool := Go.Lib.containsAny s [43, 35]
/-- Where strings.ContainsAny answers so. -/
def AnyOK (s : List UInt8) : Prop := ∀ w, Calls Tryz.prog 128 #[.string ⟨s.toArray⟩, .string ⟨#[43, 35]⟩] w fun e w' => e = .returned (.bool (anyR s)) ∧ Below w.heap.size w w'
theorem anyOK_ascii (s : List UInt8) (hs : s.length < 4294967281) (ha : ∀ (j : Nat) b, s[j]? = some b → b.toNat < 128) : AnyOK s := fun w => by
  refine (Tryz.strings_ContainsAny_laid ⟨s.toArray⟩ ⟨#[43, 35]⟩ w (by simpa [ByteArray.size] using hs) (by decide) (fun j b h => ha j b (by simpa using h)) (fun j b h => ?_)).mono ?_
  · rcases j with _ | _ | j <;> simp at h <;> subst h <;> decide
  · rintro e w' ⟨rfl, hb⟩
    exact ⟨rfl, hb⟩

def saidR (s : List UInt8) : Bool := !s.isEmpty && decide (s.length ≤ 200) && decide (wrongU s = -1)
def nameR (s : List UInt8) : Bool := saidR s && !anyR s

set_option maxRecDepth 100000 in
set_option maxHeartbeats 400000 in
theorem topic_said (s : List UInt8) (w : World) (hs : s.length ≤ 9223372036854775807) :
    Calls Tryz.prog 129 #[.string ⟨s.toArray⟩] w fun e w' => e = .returned (.bool (saidR s)) ∧ Below w.heap.size w w' := by
  have hsz : ByteArray.size ⟨s.toArray⟩ = s.length := by simp [ByteArray.size]
  have fin : ∀ b : Bool, saidR s = b → Ending.returned (.bool b) = .returned (.bool (saidR s)) := fun b h => by rw [h]
  have HF := hid fin
  clear fin
  by_cases h0 : s = []
  · subst h0
    go_enter Tryz.func129, Tryz.ntmps129
    go_wp2
    go_ret
    exact ⟨HF.out _ rfl, Below.refl _ _⟩
  have e0 : ((⟨s.toArray⟩ : ByteArray).toList == (⟨#[]⟩ : ByteArray).toList) = false := by
    rw [ByteArray.toList_eq, ByteArray.toList_eq]
    simpa using h0
  have e1 : s.isEmpty = false := by cases s <;> simp at h0 ⊢
  have HS0 := hid h0
  clear h0
  by_cases h1 : s.length ≤ 200
  · have CC := hid (utf_Check s w (by omega))
    by_cases hw : wrongU s = -1
    · rw [show checkU s = 0 by unfold checkU; rw [hw]; rfl] at CC
      have HB := hid (show saidR s = true by unfold saidR; rw [e1, hw]; simp [h1])
      clear hw
      go_enter Tryz.func129, Tryz.ntmps129
      go_wp2_with (go_at_call 125; refine CC.out.mono ?_; rintro e w1 ⟨rfl, hb⟩)
      go_ret
      exact ⟨HF.out _ HB.out, hb⟩
    · rw [show checkU s = 220 by unfold checkU; rw [if_pos (by have := wrongU_lo s; omega)]] at CC
      have HB := hid (show saidR s = false by unfold saidR; rw [e1]; simp [hw])
      clear hw
      go_enter Tryz.func129, Tryz.ntmps129
      go_wp2_with (go_at_call 125; refine CC.out.mono ?_; rintro e w1 ⟨rfl, hb⟩)
      go_ret
      exact ⟨HF.out _ HB.out, hb⟩
  · have d1 : decide ((s.length : Int) ≤ 200) = false := decide_eq_false (by omega)
    have HB := hid (show saidR s = false by unfold saidR; rw [e1]; simp [h1])
    clear h1
    go_enter Tryz.func129, Tryz.ntmps129
    go_wp2
    go_ret
    exact ⟨HF.out _ HB.out, Below.refl _ _⟩

set_option maxRecDepth 100000 in
set_option maxHeartbeats 400000 in
theorem topic_Name (s : List UInt8) (w : World) (hs : s.length ≤ 9223372036854775807) (hA : AnyOK s) :
    Calls Tryz.prog 92 #[.string ⟨s.toArray⟩] w fun e w' => e = .returned (.bool (nameR s)) ∧ Below w.heap.size w w' := by
  have fin : ∀ b : Bool, nameR s = b → Ending.returned (.bool b) = .returned (.bool (nameR s)) := fun b h => by rw [h]
  have HF := hid fin
  clear fin
  have CS := hid (topic_said s w hs)
  have HA := hid hA
  clear hA
  have HN := hid (show nameR s = (saidR s && !anyR s) from rfl)
  cases hq : saidR s
  · rw [hq] at CS HN
    clear hq
    go_enter Tryz.func92, Tryz.ntmps92
    go_wp2_with (go_at_call 129; refine CS.out.mono ?_; rintro e w1 ⟨rfl, hb⟩)
    go_ret
    exact ⟨HF.out _ HN.out, hb⟩
  · rw [hq] at CS HN
    clear hq
    have HM := hid (show nameR s = !anyR s by rw [HN.out]; rfl)
    go_enter Tryz.func92, Tryz.ntmps92
    go_wp2_with (first | (go_at_call 129; refine CS.out.mono ?_; rintro e w1 ⟨rfl, hb⟩) | (go_at_call 128; refine (HA.out _).mono ?_; rintro e w2 ⟨rfl, hb2⟩))
    go_ret
    refine ⟨HF.out _ ?_, hb.trans (hb2.mono hb.size)⟩
    rw [HM.out]
end Go.Proofs.YtodbdojjllabmaaGreatDoor
