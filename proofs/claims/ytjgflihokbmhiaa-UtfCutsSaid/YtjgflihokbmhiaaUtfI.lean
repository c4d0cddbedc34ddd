/- Plain facts on runes' bytes for the law UtfOne. -/
import Derived.Test.YtjgflihokbmhiaaUtfF
namespace Go.Proofs.Ytjgflihokbmhiaa
open Go.RowKit Go.Shelf

theorem badR_enc (r p : Nat) (h0 : r ≠ 0) (hm : mayR r = true) (hp : p + 4 ≤ 65535) (t : List UInt8) : badR (encR r ++ t) p = false := by
  have h1 := firstF_enc r h0 hm t
  have h2 := lenR_bd r
  unfold badR
  rw [h1]
  simp
  omega
theorem runesL_enc (r p : Nat) (h0 : r ≠ 0) (hm : mayR r = true) (hp : p + 4 ≤ 65535) (t : List UInt8) : runesL (encR r ++ t) p = (r :: (runesL t (p + lenR r)).1, (runesL t (p + lenR r)).2) := by
  have h1 := firstF_enc r h0 hm t
  have hne : encR r ++ t ≠ [] := by
    intro h
    have h2 := congrArg List.length h
    rw [List.length_append, encR_len] at h2
    have := lenR_bd r
    simp at h2
    omega
  rw [runesL_good _ _ hne (badR_enc r p h0 hm hp t), h1]
  have h3 : (encR r ++ t).drop (lenR r) = t := by rw [← encR_len r, List.drop_left]
  rw [h3]
theorem wrongU_enc (r : Nat) (h0 : r ≠ 0) (hm : mayR r = true) : wrongU (encR r) = -1 := by
  have h := runesL_enc r 0 h0 hm (by omega) []
  rw [List.append_nil] at h
  unfold wrongU
  rw [h]
  rfl
theorem runes_enc (r : Nat) (h0 : r ≠ 0) (hm : mayR r = true) : (runesL (encR r) 0).1 = [r] := by
  have h := runesL_enc r 0 h0 hm (by omega) []
  rw [List.append_nil] at h
  rw [h]
  rfl
theorem firstF_128 : firstF [128] = (0, 0) := by decide +kernel
theorem wrongU_more (r : Nat) (h0 : r ≠ 0) (hm : mayR r = true) : wrongU (encR r ++ [128]) = lenR r := by
  have h := runesL_enc r 0 h0 hm (by omega) [128]
  unfold wrongU
  rw [h, runesL_bad [128] (0 + lenR r) (by simp) (by unfold badR; rw [firstF_128]; simp)]
  simp
theorem wrongU_less (r : Nat) (h0 : r ≠ 0) (hm : mayR r = true) (h1 : lenR r ≠ 1) : wrongU ((encR r).take (lenR r - 1)) = 0 := by
  have hb := lenR_bd r
  have hne : (encR r).take (lenR r - 1) ≠ [] := by
    intro h
    have h2 := congrArg List.length h
    rw [List.length_take, encR_len] at h2
    simp at h2
    omega
  have hf : firstF ((encR r).take (lenR r - 1)) = (0, 0) := by
    rcases firstF_spec ((encR r).take (lenR r - 1)) with h | ⟨v, n, h, h2, h3, h4, h5, h6⟩
    · exact h
    · exfalso
      rw [List.length_take, encR_len] at h5
      have h7 : encR r = encR v ++ (encR r).drop n := by
        rw [h6, List.take_take, Nat.min_eq_left (by omega), List.take_append_drop]
      have h8 := firstF_enc v h2 h3 ((encR r).drop n)
      rw [← h7] at h8
      have h9 := firstF_enc r h0 hm []
      rw [List.append_nil, h8] at h9
      have h10 := congrArg Prod.snd h9
      dsimp only at h10
      omega
  unfold wrongU
  rw [runesL_bad _ 0 hne (by unfold badR; rw [hf]; rfl)]
  rfl
theorem rawU_one (r : Nat) (h0 : r ≠ 0) (hm : mayR r = true) : rawU [(r : Int)] = (encR r, 0) := by
  have h1 : encAll [(r : Int)] = encR r := by simp [encAll]
  have hb := lenR_bd r
  unfold rawU
  rw [h1, wrongU_enc r h0 hm, encR_len, idxOf_none _ _ (by intro x hx; rw [List.mem_singleton.1 hx, hm]; rfl)]
  rw [if_neg (by omega), if_neg (by omega)]
theorem rawU_not (r : Int) (hm : mayR r = false) : rawU [r] = ([], 2) := by
  unfold rawU
  rw [if_pos (by simp [idxOf, hm])]
theorem rawU_zero : rawU [0] = ([], 220) := by decide +kernel
theorem str_app (x y : List UInt8) : (⟨x.toArray⟩ : ByteArray) ++ ⟨y.toArray⟩ = ⟨(x ++ y).toArray⟩ := by
  apply ByteArray.ext
  simp
end Go.Proofs.Ytjgflihokbmhiaa
