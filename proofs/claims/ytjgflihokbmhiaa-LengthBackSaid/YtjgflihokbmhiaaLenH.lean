/- package length: Split of a number that may not be; Raw; the reference's Raw; 'known'. -/
import Derived.Test.YtjgflihokbmhiaaLenG
import Derived.Laws.IdiomStrings
namespace Go.Proofs.Ytjgflihokbmhiaa
open Go.RowKit Go.Shelf

set_option maxRecDepth 100000 in
set_option maxHeartbeats 1000000 in
theorem len_split_no (a : Option Addr) (n cap : Nat) (most : Int) (w : World) (hm : mayL most = false) :
    Calls Try.prog 26 #[.slice a n cap, .int .i64 most] w fun e w' => e = .returned (.tuple #[.slice none 0 0, .slice none 0 0, .int .i64 2]) ∧ Below w.heap.size w w' := by
  go_enter Try.func26, Try.ntmps26
  go_wp2_with fail
  apply wp_scope_straight
  go_wp2_with fail
  refine (len_may _ _).mono ?_
  rintro e w' ⟨rfl, rfl⟩
  go_wp2
  rw [Exit.noGoto_ret]
  refine bodyPost_ret (v := .tuple #[.slice none 0 0, .slice none 0 0, .int .i64 2]) (by simp [results, Try.results26, go_sem]) rfl ⟨rfl, ?_⟩
  exact ((Below.refl _ w).alloc (Nat.le_refl _) _).alloc (by simp) _

theorem RowAt.one (w : World) (v : Value) (T : TypeId) : RowAt (w.alloc (.cells #[v] T)) (some ⟨w.heap.size, 0, none⟩) 1 1 [v] := RowAt.new w #[v] T (0, 0) (by simp [maxLen])

set_option maxHeartbeats 400000 in
theorem len_raw (n : Int) (w : World) (hm : mayL n = true) :
    Calls Try.prog 24 #[.int .i64 n] w fun e w' => ∃ v, e = .returned (.tuple #[v, .int .i64 0]) ∧ w'.ownsRow w.heap.size 5 1 v (sizeL n) (bs (rawL (sizeL n) n.toNat)) ∧ Below w.heap.size w w' := by
  have HA := hid (len_all (some ⟨w.heap.size, 0, none⟩) 1 1 [n] (w.alloc (.cells #[.int .i64 n] 2)) (RowAt.one _ _ _) (by decide) (by simpa using hm))
  go_enter Try.func24, Try.ntmps24
  go_wp2_with fail
  refine HA.out.mono ?_
  rintro e w1 ⟨v, rfl, ho, hb⟩
  have h1 : allL [n] = rawL (sizeL n) n.toNat := by simp [allL]
  rw [h1, rawL_len] at ho
  go_wp2
  go_ret2
  exact ⟨_, rfl, ownsRow_mono ho (by simp), ((Below.refl _ w).alloc (Nat.le_refl _) _).trans (hb.mono (by simp))⟩

set_option maxHeartbeats 400000 in
theorem len_raw_no (n : Int) (w : World) (hm : mayL n = false) :
    Calls Try.prog 24 #[.int .i64 n] w fun e w' => e = .returned (.tuple #[.slice none 0 0, .int .i64 2]) ∧ Below w.heap.size w w' := by
  have HA := hid (len_all_no (some ⟨w.heap.size, 0, none⟩) 1 1 [n] (w.alloc (.cells #[.int .i64 n] 2)) (RowAt.one _ _ _) (by simp [idxOf, hm]))
  go_enter Try.func24, Try.ntmps24
  go_wp2_with fail
  refine HA.out.mono ?_
  rintro e w1 ⟨rfl, rfl⟩
  go_wp2
  go_ret2
  exact ⟨rfl, ((Below.refl _ w).alloc (Nat.le_refl _) _)⟩

def splitF (most : Int) : Nat → List UInt8 → List (List UInt8) × List UInt8
  | 0, r => ([], r)
  | f + 1, r => if errL most r = 0 ∧ fullL r = true then (partL r :: (splitF most f (r.drop (cutL r))).1, (splitF most f (r.drop (cutL r))).2) else ([], r)
theorem ChainL.split {most : Int} {l : List UInt8} {ps : List (List UInt8)} {r : List UInt8} (h : ChainL most l ps r) (he : ¬ (errL most r = 0 ∧ fullL r = true)) (f : Nat) (hf : ps.length < f) : splitF most f l = (ps, r) := by
  induction ps generalizing l f with
  | nil =>
    obtain rfl : l = r := h
    cases f with
    | zero => rfl
    | succ f => simp only [splitF, if_neg he]
  | cons p ps ih =>
    cases f with
    | zero => simp at hf
    | succ f =>
      have h1 := ih h.2.2.2 f (by simpa using hf)
      simp only [splitF, if_pos (⟨h.1, h.2.1⟩ : errL most l = 0 ∧ fullL l = true), h1, h.2.2.1]

theorem split_ends {most : Int} {r : List UInt8} {p q : Prop} (h : (errL most r ≠ 0 ∧ p) ∨ (errL most r = 0 ∧ fullL r = false ∧ q)) : ¬ (errL most r = 0 ∧ fullL r = true) := by
  rintro ⟨h1, h2⟩
  rcases h with ⟨h, _⟩ | ⟨_, h, _⟩
  · exact h h1
  · rw [h] at h2; cases h2

theorem run_str {w : World} {a : Option Addr} {n cap : Nat} {l : List UInt8} (h : RowAt w a n cap (bs l)) : (convert 22 9 (.slice a n cap)).run Try.prog w = .ok (.string ⟨l.toArray⟩) w := by
  have hn : l.length = n := by have := h.len; rwa [bs_len] at this
  subst hn
  cases a with
  | none =>
    have h0 : l = [] := by
      cases l with
      | nil => rfl
      | cons x l => obtain ⟨_, _, ha, _⟩ := h.cells 0 (by simp); cases ha
    subst h0
    exact run_convert_bytes_nil (w := w) 22 5 Try.underlying22 Try.underlying5 _ _ 9 Try.underlying9
  | some ad =>
    refine run_convert_bytes_back w 22 9 5 ad cap l Try.underlying22 Try.underlying5 Try.underlying9 (fun j hj => ?_)
    obtain ⟨b, off, ha, hc⟩ := h.byte hj
    cases ha
    rw [List.getElem?_eq_getElem hj, Option.getD_some] at hc
    by_cases h0 : j = 0
    · subst h0; simpa [Addr.add] using hc
    · simpa [Addr.add, h0] using hc

set_option maxRecDepth 100000 in
set_option maxHeartbeats 1000000 in
theorem known15 (w : World) : Calls Try.prog 12 #[] w fun e w' => e = .returned (.bool true) ∧ Below w.heap.size w w' := by
  have HA := hid (len_all (some ⟨w.heap.size, 0, none⟩) 4 4 [0, 127, 128, 268435455] (w.alloc (.cells #[.int .i64 0, .int .i64 127, .int .i64 128, .int .i64 268435455] 2)) (RowAt.new w _ _ _ (by simp [maxLen])) (by decide) (by decide))
  have r1 : readL [128] = (0, 0, 0) := by decide
  have r2 : readL [128, 0] = (0, 0, 250) := by decide
  have R1 := hid r1
  have R2 := hid r2
  clear r1 r2
  go_enter Try.func12, Try.ntmps12
  go_wp2_with fail
  refine HA.out.mono ?_
  rintro e w1 ⟨v, rfl, ho, hb⟩
  clear HA
  rw [show allL [0, 127, 128, 268435455] = [0, 127, 128, 1, 255, 255, 255, 127] from by decide] at ho
  obtain ⟨a1, c1, rfl, hv⟩ := RowAt.of_own ho
  have hb1 := ((Below.refl _ w).alloc (Nat.le_refl _) (.cells #[.int .i64 0, .int .i64 127, .int .i64 128, .int .i64 268435455] 2)).trans (hb.mono (by simp))
  clear ho hb
  go_wp2_with fail
  have C2 := hid (len_read (some ⟨w1.heap.size, 0, none⟩) 1 1 [128] (w1.alloc (.cells #[.int .u8 128] 5)) (RowAt.new w1 _ _ _ (by simp [maxLen])))
  rw [R1.out] at C2
  refine C2.out.mono ?_
  rintro e w2 ⟨rfl, hb⟩
  have hb2 := hb1.trans ((((Below.refl _ w1).alloc (Nat.le_refl _) (.cells #[.int .u8 128] 5)).trans (hb.mono (by simp))).mono hb1.size)
  have hv2 := (hv.alloc (.cells #[.int .u8 128] 5)).below hb
  clear hb1 hv hb C2
  go_wp2_with fail
  have C3 := hid (len_read (some ⟨w2.heap.size, 0, none⟩) 2 2 [128, 0] (w2.alloc (.cells #[.int .u8 128, .int .u8 0] 5)) (RowAt.new w2 _ _ _ (by simp [maxLen])))
  rw [R2.out] at C3
  refine C3.out.mono ?_
  rintro e w3 ⟨rfl, hb⟩
  have hb3 := hb2.trans ((((Below.refl _ w2).alloc (Nat.le_refl _) (.cells #[.int .u8 128, .int .u8 0] 5)).trans (hb.mono (by simp))).mono hb2.size)
  have hv3 := (hv2.alloc (.cells #[.int .u8 128, .int .u8 0] 5)).below hb
  clear hb2 hv2 hb C3
  go_wp2_with fail
  have C4 := hid (len_split (some ⟨w3.heap.size, 0, none⟩) 5 5 [2, 97, 98, 3, 99] 9 (w3.alloc (.cells #[.int .u8 2, .int .u8 97, .int .u8 98, .int .u8 3, .int .u8 99] 5)) (RowAt.new w3 _ _ _ (by simp [maxLen])) (by decide) (by decide))
  refine C4.out.mono ?_
  rintro e w4 ⟨hb, ps, r, hch, hcase⟩
  clear C4
  have hps : splitF 9 6 [2, 97, 98, 3, 99] = (ps, r) := hch.split (split_ends hcase) 6 (by have := hch.len; simp at this; omega)
  have hcomp : splitF 9 6 [2, 97, 98, 3, 99] = ([[97, 98]], [3, 99]) := by decide
  rw [hcomp] at hps
  simp only [Prod.mk.injEq] at hps
  obtain ⟨rfl, rfl⟩ := hps
  rcases hcase with ⟨h, _⟩ | ⟨_, _, ov, lv, vs, rfl, hov, hvs, hlv⟩
  · exact absurd (by decide) h
  have hb4 := hb3.trans ((((Below.refl _ w3).alloc (Nat.le_refl _) (.cells #[.int .u8 2, .int .u8 97, .int .u8 98, .int .u8 3, .int .u8 99] 5)).trans (hb.mono (by simp))).mono hb3.size)
  have hv4 := (hv3.alloc (.cells #[.int .u8 2, .int .u8 97, .int .u8 98, .int .u8 3, .int .u8 99] 5)).below hb
  clear hb3 hv3 hb hch hcomp
  match vs, hvs with
  | [pv], ⟨hp, _⟩ =>
    obtain ⟨ao, co, rfl, ho4⟩ := RowAt.of_own hov
    obtain ⟨ap, cp, rfl, hp4⟩ := RowAt.of_own hp
    obtain ⟨al, cl, rfl, hl4⟩ := RowAt.of_own hlv
    clear hov hp hlv
    go_wp2_with fail
    have C5 := hid (len_split (some ⟨w4.heap.size, 0, none⟩) 1 1 [5] 4 (w4.alloc (.cells #[.int .u8 5] 5)) (RowAt.new w4 _ _ _ (by simp [maxLen])) (by decide) (by decide))
    refine C5.out.mono ?_
    rintro e w5 ⟨hb, ps, r, hch, hcase⟩
    clear C5
    have hps : splitF 4 2 [5] = (ps, r) := hch.split (split_ends hcase) 2 (by have := hch.len; simp at this; omega)
    have hcomp : splitF 4 2 [5] = ([], [5]) := by decide
    rw [hcomp] at hps
    simp only [Prod.mk.injEq] at hps
    obtain ⟨rfl, rfl⟩ := hps
    rcases hcase with ⟨_, rfl⟩ | ⟨h, _⟩
    rotate_left
    · exact absurd h (by decide)
    have hb5 := hb4.trans ((((Below.refl _ w4).alloc (Nat.le_refl _) (.cells #[.int .u8 5] 5)).trans (hb.mono (by simp))).mono hb4.size)
    have s1 := run_str ((hv4.alloc (.cells #[.int .u8 5] 5)).below hb)
    have s2 := run_str ((hp4.alloc (.cells #[.int .u8 5] 5)).below hb)
    have s3 := run_str ((hl4.alloc (.cells #[.int .u8 5] 5)).below hb)
    obtain ⟨bo, fo, rfl, hco⟩ := ((ho4.alloc (.cells #[.int .u8 5] 5)).below hb).cells 0 (by simp)
    have hE : errL 4 [5] = 3 := by decide
    rw [hE]
    clear hb hb4 hv4 ho4 hp4 hl4 hch hcomp
    rw [show ([0, 127, 128, 1, 255, 255, 255, 127] : List UInt8).toArray = #[0, 127, 128, 1, 255, 255, 255, 127] from rfl] at s1
    rw [show ([97, 98] : List UInt8).toArray = #[97, 98] from rfl] at s2
    rw [show ([3, 99] : List UInt8).toArray = #[3, 99] from rfl] at s3
    simp only [List.length_cons, List.length_nil, Nat.reduceAdd] at s1 s2 s3
    have hco0 : w5.cell? ⟨bo, fo, none⟩ = some (.slice ap 2 cp) := hco
    go_wp2
    go_ret
    exact ⟨rfl, hb5⟩
end Go.Proofs.Ytjgflihokbmhiaa
