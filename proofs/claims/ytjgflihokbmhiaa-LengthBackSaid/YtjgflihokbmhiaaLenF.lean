/- package length: the iterator 'parts'. -/
import Derived.Test.YtjgflihokbmhiaaLenE
import Derived.Test.YtjgflihokbmhiaaRange
namespace Go.Proofs.Ytjgflihokbmhiaa
open Go.RowKit Go.Shelf
attribute [local go_sem] Oper.semAt_some

/-- Why r gives no part (0: that is not why). -/
def errL (most : Int) (r : List UInt8) : Int := if (readL r).2.2 ≠ 0 then (readL r).2.2 else if most < (readL r).1 then 3 else 0
/-- Is a part all there? -/
def fullL (r : List UInt8) : Bool := decide ((readL r).2.1 ≠ 0) && decide ((readL r).1 ≤ r.length - (readL r).2.1)
def cutL (r : List UInt8) : Nat := (readL r).2.1.toNat + (readL r).1.toNat
def partL (r : List UInt8) : List UInt8 := (r.take (cutL r)).drop (readL r).2.1.toNat
/-- From r the parts ps are cut, r' is left. -/
def ChainL (most : Int) : List UInt8 → List (List UInt8) → List UInt8 → Prop
  | r, [], r' => r = r'
  | r, p :: ps, r' => errL most r = 0 ∧ fullL r = true ∧ p = partL r ∧ ChainL most (r.drop (cutL r)) ps r'
theorem ChainL.snoc {most : Int} {r : List UInt8} {ps : List (List UInt8)} {r' : List UInt8} (h : ChainL most r ps r') (h1 : errL most r' = 0) (h2 : fullL r' = true) :
    ChainL most r (ps ++ [partL r']) (r'.drop (cutL r')) := by
  induction ps generalizing r with
  | nil => obtain rfl : r = r' := h; exact ⟨h1, h2, rfl, rfl⟩
  | cons p ps ih => exact ⟨h.1, h.2.1, h.2.2.1, ih h.2.2.2⟩

/-- A part that is handed on. -/
structure PartV where
  a : Option Addr
  n : Nat
  cap : Nat
  size : Int
  why : Int
  raw : List UInt8
def PartV.enc (x : PartV) : Value := .agg #[.slice x.a x.n x.cap, .int .i64 x.size, .int .i64 x.why]

theorem readL_facts (r : List UInt8) : 0 ≤ (readL r).1 ∧ (readL r).1 ≤ 268435455 ∧ 0 ≤ (readL r).2.1 ∧ (readL r).2.1 ≤ r.length ∧ (readL r).2.1 ≤ 4 ∧ 0 ≤ (readL r).2.2 ∧ (readL r).2.2 ≤ 250 := by
  unfold readL
  have h1 := idxOf_lt (fun x : UInt8 => decide (x.toNat < 128)) (r.take 4)
  simp only [List.length_take] at h1
  generalize idxOf (fun x : UInt8 => decide (x.toNat < 128)) (r.take 4) = e at *
  dsimp only
  split
  · split <;> simp
  · split
    · rename_i h2 h3
      have h4 := takenL_lt (r.take (e.toNat + 1))
      have h5 : (128 : Nat) ^ (r.take (e.toNat + 1)).length ≤ 128 ^ 4 := Nat.pow_le_pow_right (by decide) (by simp; omega)
      simp
      omega
    · simp

/-- What is known of a part when it is handed on. -/
def PartNx (most : Int) (l : List UInt8) (w0 : World) (pre : List PartV) (x : PartV) (_W : World) : Prop :=
  ∃ r, ChainL most l (pre.map (·.raw)) r ∧ ((errL most r ≠ 0 ∧ x = ⟨none, 0, 0, 0, errL most r, []⟩) ∨
    (errL most r = 0 ∧ fullL r = true ∧ x.why = 0 ∧ x.size = cutL r ∧ x.raw = partL r ∧ RowAt w0 x.a x.n x.cap (bs x.raw)))
def PartS (most : Int) (l : List UInt8) (xs : List PartV) : Prop :=
  ∃ r, ChainL most l (xs.map (·.raw)) r ∧ errL most r = 0 ∧ fullL r = false

/-- The length of a slice in a cell. -/
def sliceLen : Option Value → Nat
  | some (.slice _ n _) => n
  | _ => 0

set_option maxRecDepth 100000 in
set_option maxHeartbeats 1000000 in
theorem len_parts1 (most : Int) (a : Option Addr) (n cap : Nat) (l : List UInt8) (w0 w : World) (B : Nat) (hB0 : w0.heap.size ≤ B) (hw : Below w0.heap.size w0 w) (hrow : RowAt w0 a n cap (bs l))
    (hb : Boxed w B 22 (.slice a n cap)) (hm : Boxed w (B + 1) 2 (.int .i64 most)) :
    SeqG Try.prog 60 #[.pointer (some ⟨B, 0, none⟩), .pointer (some ⟨B + 1, 0, none⟩)] (fun x : PartV => #[x.enc]) (Keep w0.heap.size [B, B + 1]) (Wrote [B]) (PartNx most l w0)
      (fun xs => PartS most l xs ∨ ∃ pre x r, xs = pre ++ [x] ∧ ChainL most l (pre.map (·.raw)) r ∧ errL most r ≠ 0) (fun _ => True) w := by
  intro lb J Jx W hW hlb hJ hJx hY h0
  refine callsIn_of_wp Try.func60 rfl trivial ?_ rfl
  simp only [Try.ntmps60, List.size_toArray, List.length_cons, List.length_nil, Nat.reduceAdd, Nat.reduceSub, Array.replicate_succ, Array.replicate_zero, List.push_toArray, List.append_toArray, List.nil_append, List.cons_append]
  gi_wp2
  gi_loopw [8] (fun _ wr => ∃ (pre : List PartV) (r : List UInt8) (a' : Option Addr) (n' cap' : Nat), Below w0.heap.size w0 wr ∧ Boxed wr B 22 (.slice a' n' cap') ∧ Boxed wr (B + 1) 2 (.int .i64 most) ∧ RowAt w0 a' n' cap' (bs r) ∧ ChainL most l (pre.map (·.raw)) r ∧ J pre wr)
    (fun _ wr => sliceLen (wr.cell? ⟨B, 0, none⟩))
  case atStart => exact ⟨[], l, a, n, cap, hw.trans (hW.mono hw.size), boxed_below hb hW, boxed_below hm hW, hrow, rfl, h0⟩
  case round =>
    obtain ⟨pre, r, a', n', cap', hbel, hbx, hmx, hr, hch, hj⟩ := hrel
    have hc1 := hbx.cell
    have hc2 := hmx.cell
    have hlen : r.length = n' := by have := hr.len; rwa [bs_len] at this
    have hmax := hr.max
    have hle := hr.le
    unfold maxLen at hmax
    obtain ⟨g1, g2, g3, g4, g5, g6, g7⟩ := readL_facts r
    have hE : errL most r = if (readL r).2.2 ≠ 0 then (readL r).2.2 else if most < (readL r).1 then 3 else 0 := rfl
    have hF : fullL r = (decide ((readL r).2.1 ≠ 0) && decide ((readL r).1 ≤ r.length - (readL r).2.1)) := rfl
    have hC : cutL r = (readL r).2.1.toNat + (readL r).1.toNat := rfl
    have hP : partL r = (r.take (cutL r)).drop (readL r).2.1.toNat := rfl
    have HC := hid (len_read a' n' cap' r wr (hr.below (hbel.mono (Nat.le_refl _))))
    generalize readL r = q at *
    obtain ⟨N, S, E⟩ := q
    dsimp only at *
    gi_wp2_with fail
    refine inW HC.out ?_
    rintro e w2 ⟨rfl, hb2⟩
    clear HC
    have hbel2 := hbel.trans (hb2.mono hbel.size)
    have hbx2 := boxed_below hbx hb2
    have hmx2 := boxed_below hmx hb2
    have hj2 := hJ _ _ _ hj (Wrote.of_below hb2)
    have hc1 := hbx2.cell
    have hc2 := hmx2.cell
    have hf1 := hbx2.frozen
    rcases (show 0 < E ∨ (E = 0 ∧ most < N) ∨ (E = 0 ∧ N ≤ most ∧ S = 0) ∨ (E = 0 ∧ N ≤ most ∧ 0 < S ∧ n' - S < N) ∨ (E = 0 ∧ N ≤ most ∧ 0 < S ∧ N ≤ n' - S) from by omega) with h | ⟨rfl, h⟩ | ⟨rfl, h, rfl⟩ | ⟨rfl, h, h', h''⟩ | ⟨rfl, h, h', h''⟩
    · have hEn : E ≠ 0 := by omega
      rw [if_pos hEn] at hE
      obtain ⟨fn, tmps, assign, body, hy, hR⟩ := hY pre ⟨none, 0, 0, 0, E, []⟩ w2 hj2 ⟨r, hch, .inl ⟨by omega, by rw [hE]⟩⟩
      simp only [PartV.enc] at hy
      have HE := hid hE; have HF := hid hF; have HCu := hid hC; have HP := hid hP; have HL := hid hlen
      have HR := hid hR
      clear hE hF hC hP hlen hR
      have e1 : (E == 0) = false := by simp; omega
      have e2 : (E != 0) = true := by simp; omega
      gi_wp2_with fail
      refine ⟨rfl, HR.out.mono ?_⟩
      rintro e W3 (⟨rfl, hJ3, hk3⟩ | ⟨rfl, hJx3⟩)
      · gi_wp2
        refine bodyPost_ret (results_none rfl _ _ _) rfl ?_
        exact ⟨⟨_, rfl⟩, .inl ⟨_, .inr ⟨pre, _, r, rfl, hch, by rw [HE.out]; omega⟩, hJ3⟩⟩
      · gi_wp2
        refine bodyPost_ret (results_none rfl _ _ _) rfl ?_
        exact ⟨⟨_, rfl⟩, .inr ⟨_, trivial, hJx3⟩⟩
    · rw [if_neg (by simp), if_pos h] at hE
      obtain ⟨fn, tmps, assign, body, hy, hR⟩ := hY pre ⟨none, 0, 0, 0, 3, []⟩ w2 hj2 ⟨r, hch, .inl ⟨by omega, by rw [hE]⟩⟩
      simp only [PartV.enc] at hy
      have HE := hid hE; have HF := hid hF; have HCu := hid hC; have HP := hid hP; have HL := hid hlen
      have HR := hid hR
      clear hE hF hC hP hlen hR
      gi_wp2_with fail
      refine ⟨rfl, HR.out.mono ?_⟩
      rintro e W3 (⟨rfl, hJ3, hk3⟩ | ⟨rfl, hJx3⟩)
      · gi_wp2
        refine bodyPost_ret (results_none rfl _ _ _) rfl ?_
        exact ⟨⟨_, rfl⟩, .inl ⟨_, .inr ⟨pre, _, r, rfl, hch, by rw [HE.out]; omega⟩, hJ3⟩⟩
      · gi_wp2
        refine bodyPost_ret (results_none rfl _ _ _) rfl ?_
        exact ⟨⟨_, rfl⟩, .inr ⟨_, trivial, hJx3⟩⟩
    · rw [if_neg (by simp), if_neg (by omega)] at hE
      have HE := hid hE; have HF := hid hF; have HCu := hid hC; have HP := hid hP; have HL := hid hlen
      clear hE hF hC hP hlen
      gi_wp2
      refine bodyPost_ret (results_none rfl _ _ _) rfl ?_
      exact ⟨⟨_, rfl⟩, .inl ⟨_, .inl ⟨r, hch, HE.out, by rw [HF.out]; simp⟩, hj2⟩⟩
    · rw [if_neg (by simp), if_neg (by omega)] at hE
      have HE := hid hE; have HF := hid hF; have HCu := hid hC; have HP := hid hP; have HL := hid hlen
      clear hE hF hC hP hlen
      have e1 : (S == 0) = false := by simp; omega
      gi_wp2
      refine bodyPost_ret (results_none rfl _ _ _) rfl ?_
      exact ⟨⟨_, rfl⟩, .inl ⟨_, .inl ⟨r, hch, HE.out, by rw [HF.out]; have := HL.out; simp; omega⟩, hj2⟩⟩
    · obtain ⟨m, rfl⟩ := Int.eq_ofNat_of_zero_le g1
      obtain ⟨s, rfl⟩ := Int.eq_ofNat_of_zero_le g3
      rw [if_neg (by simp), if_neg (by omega)] at hE
      have hF2 : fullL r = true := by rw [hF]; simp; omega
      rw [Int.toNat_natCast, Int.toNat_natCast] at hC
      rw [Int.toNat_natCast] at hP
      obtain ⟨b, off, ha, -⟩ := hr.cells 0 (by omega)
      subst ha
      clear hF
      have HE := hid hE; have HF := hid hF2; have HCu := hid hC; have HP := hid hP; have HL := hid hlen
      clear hE hF2 hC hP hlen
      have e1 : ((s : Int) == 0) = false := by simp; omega
      have hsm : s + m ≤ n' := by omega
      rcases (show s + m < cap' ∨ (cap' = s + m ∧ 0 < m) ∨ (m = 0 ∧ s = cap') from by omega) with hc | ⟨rfl, hm0⟩ | ⟨rfl, rfl⟩
      ·
        have hrow2 : RowAt w0 (some ⟨b, off + s, none⟩) m (cap' - s) (bs (partL r)) := by
          rw [HP.out, HCu.out, ← bs_sub]
          exact hr.sub (by omega) (by omega) (fun h => by first | rfl | omega) (by omega) (by omega)
        obtain ⟨fn, tmps, assign, body, hy, hR⟩ := hY pre ⟨(some ⟨b, off + s, none⟩), m, (cap' - s), (s : Int) + (m : Int), 0, partL r⟩ w2 hj2 ⟨r, hch, .inr ⟨HE.out, HF.out, rfl, by rw [HCu.out]; simp, rfl, hrow2⟩⟩
        simp only [PartV.enc] at hy
        have HR := hid hR
        clear hR
        gi_wp2_with fail
        refine ⟨rfl, HR.out.mono ?_⟩
        rintro e W3 (⟨rfl, hJ3, hk3⟩ | ⟨rfl, hJx3⟩)
        · have hbx3 : Boxed W3 B 22 _ := (hk3.keep B (by simp)).trans hbx2
          have hmx3 : Boxed W3 (B + 1) 2 _ := (hk3.keep (B + 1) (by simp)).trans hmx2
          have hbel3 := hbel2.trans hk3.bel
          have hc13 := hbx3.cell
          have hf13 := hbx3.frozen
          have hrow3 : RowAt w0 (some ⟨b, off + (s + m), none⟩) (n' - (s + m)) (cap' - (s + m)) (bs (r.drop (cutL r))) := by
            have h1 := hr.sub (i := (s + m)) (j := n') (a' := (some ⟨b, off + (s + m), none⟩)) (n' := (n' - (s + m))) (cap' := (cap' - (s + m))) (by omega) (Nat.le_refl _) (fun h => by first | rfl | omega) (by omega) (by omega)
            rw [bs_sub, List.take_of_length_le (by have := HL.out; omega)] at h1
            rw [HCu.out]
            exact h1
          gi_wp2
          go_roundw
          case rel =>
            refine ⟨pre ++ [_], r.drop (cutL r), _, _, _, hbel3.setCell (p := ⟨B, 0, none⟩) hB0 _, hbx3.set _, hmx3.other (by omega) _, hrow3, ?_, hJ _ _ _ hJ3 (Wrote.setCell _ _ (by simp) _)⟩
            have h1 := hch.snoc HE.out HF.out
            simpa using h1
          case measure =>
            rw [(hbx3.set _).cell, hbx.cell]
            simp only [sliceLen]
            omega
        · gi_wp2
          refine bodyPost_ret (results_none rfl _ _ _) rfl ?_
          exact ⟨⟨_, rfl⟩, .inr ⟨_, trivial, hJx3⟩⟩
      ·
        have hrow2 : RowAt w0 (some ⟨b, off + s, none⟩) m m (bs (partL r)) := by
          rw [HP.out, HCu.out, ← bs_sub]
          exact hr.sub (by omega) (by omega) (fun h => by first | rfl | omega) (by omega) (by omega)
        obtain ⟨fn, tmps, assign, body, hy, hR⟩ := hY pre ⟨(some ⟨b, off + s, none⟩), m, m, (s : Int) + (m : Int), 0, partL r⟩ w2 hj2 ⟨r, hch, .inr ⟨HE.out, HF.out, rfl, by rw [HCu.out]; simp, rfl, hrow2⟩⟩
        simp only [PartV.enc] at hy
        have HR := hid hR
        clear hR
        gi_wp2_with fail
        refine ⟨rfl, HR.out.mono ?_⟩
        rintro e W3 (⟨rfl, hJ3, hk3⟩ | ⟨rfl, hJx3⟩)
        · have hbx3 : Boxed W3 B 22 _ := (hk3.keep B (by simp)).trans hbx2
          have hmx3 : Boxed W3 (B + 1) 2 _ := (hk3.keep (B + 1) (by simp)).trans hmx2
          have hbel3 := hbel2.trans hk3.bel
          have hc13 := hbx3.cell
          have hf13 := hbx3.frozen
          have hrow3 : RowAt w0 (some ⟨b, off, none⟩) 0 0 (bs (r.drop (cutL r))) := by
            have h1 := hr.sub (i := (s + m)) (j := n') (a' := (some ⟨b, off, none⟩)) (n' := 0) (cap' := 0) (by omega) (Nat.le_refl _) (fun h => by first | rfl | omega) (by omega) (by omega)
            rw [bs_sub, List.take_of_length_le (by have := HL.out; omega)] at h1
            rw [HCu.out]
            exact h1
          gi_wp2
          go_roundw
          case rel =>
            refine ⟨pre ++ [_], r.drop (cutL r), _, _, _, hbel3.setCell (p := ⟨B, 0, none⟩) hB0 _, hbx3.set _, hmx3.other (by omega) _, hrow3, ?_, hJ _ _ _ hJ3 (Wrote.setCell _ _ (by simp) _)⟩
            have h1 := hch.snoc HE.out HF.out
            simpa using h1
          case measure =>
            rw [(hbx3.set _).cell, hbx.cell]
            simp only [sliceLen]
            omega
        · gi_wp2
          refine bodyPost_ret (results_none rfl _ _ _) rfl ?_
          exact ⟨⟨_, rfl⟩, .inr ⟨_, trivial, hJx3⟩⟩
      ·
        have hrow2 : RowAt w0 (some ⟨b, off, none⟩) 0 0 (bs (partL r)) := by
          rw [HP.out, HCu.out, ← bs_sub]
          exact hr.sub (by omega) (by omega) (fun h => by first | rfl | omega) (by omega) (by omega)
        obtain ⟨fn, tmps, assign, body, hy, hR⟩ := hY pre ⟨(some ⟨b, off, none⟩), 0, 0, (s : Int), 0, partL r⟩ w2 hj2 ⟨r, hch, .inr ⟨HE.out, HF.out, rfl, by rw [HCu.out]; simp, rfl, hrow2⟩⟩
        simp only [PartV.enc] at hy
        have HR := hid hR
        clear hR
        gi_wp2_with fail
        refine ⟨rfl, HR.out.mono ?_⟩
        rintro e W3 (⟨rfl, hJ3, hk3⟩ | ⟨rfl, hJx3⟩)
        · have hbx3 : Boxed W3 B 22 _ := (hk3.keep B (by simp)).trans hbx2
          have hmx3 : Boxed W3 (B + 1) 2 _ := (hk3.keep (B + 1) (by simp)).trans hmx2
          have hbel3 := hbel2.trans hk3.bel
          have hc13 := hbx3.cell
          have hf13 := hbx3.frozen
          have hrow3 : RowAt w0 (some ⟨b, off, none⟩) 0 0 (bs (r.drop (cutL r))) := by
            have h1 := hr.sub (i := s) (j := n') (a' := (some ⟨b, off, none⟩)) (n' := 0) (cap' := 0) (by omega) (Nat.le_refl _) (fun h => by first | rfl | omega) (by omega) (by omega)
            rw [bs_sub, List.take_of_length_le (by have := HL.out; omega)] at h1
            rw [HCu.out]
            exact h1
          gi_wp2
          go_roundw
          case rel =>
            refine ⟨pre ++ [_], r.drop (cutL r), _, _, _, hbel3.setCell (p := ⟨B, 0, none⟩) hB0 _, hbx3.set _, hmx3.other (by omega) _, hrow3, ?_, hJ _ _ _ hJ3 (Wrote.setCell _ _ (by simp) _)⟩
            have h1 := hch.snoc HE.out HF.out
            simpa using h1
          case measure =>
            rw [(hbx3.set _).cell, hbx.cell]
            simp only [sliceLen]
            omega
        · gi_wp2
          refine bodyPost_ret (results_none rfl _ _ _) rfl ?_
          exact ⟨⟨_, rfl⟩, .inr ⟨_, trivial, hJx3⟩⟩
end Go.Proofs.Ytjgflihokbmhiaa
