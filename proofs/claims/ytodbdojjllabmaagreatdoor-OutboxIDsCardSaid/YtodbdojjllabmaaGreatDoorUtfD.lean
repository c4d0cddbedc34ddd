/- Contracts of package utf: runes and its iterator. -/
import Derived.Test.YtodbdojjllabmaaGreatDoorUtfC
import Derived.Test.YtodbdojjllabmaaGreatDoorBytes
import Derived.IntWalk
namespace Go.Proofs.YtodbdojjllabmaaGreatDoor
open Go.RowKit Go.Shelf
attribute [local go_sem] Oper.semAt_some

/-- A place and a rune, as they are handed on. -/
def encU (x : Nat × Nat) : Array Value := #[.int .i64 x.1, .int .i32 x.2]
/-- What is known of a rune when it is handed on. -/
def RuneNx (s : List UInt8) (pre : List (Nat × Nat)) (x : Nat × Nat) (_W : World) : Prop :=
  ∃ s' p', ChainU s 0 pre s' p' ∧ s' ≠ [] ∧ ((badR s' p' = true ∧ x = (p', 0)) ∨ (badR s' p' = false ∧ x = (p', (firstF s').1)))
/-- All have come. -/
def RuneS (s : List UInt8) (xs : List (Nat × Nat)) : Prop :=
  (∃ p', ChainU s 0 xs [] p') ∨ ∃ pre s' p', ChainU s 0 pre s' p' ∧ s' ≠ [] ∧ badR s' p' = true ∧ xs = pre ++ [(p', 0)]

set_option maxRecDepth 100000 in
set_option maxHeartbeats 400000 in
theorem utf_runes (s : List UInt8) (w : World) :
    Calls Tryz.prog 147 #[.string ⟨s.toArray⟩] w fun e w' => e = .returned (.func (.func 157) #[] #[.pointer (some ⟨w.heap.size, 0, none⟩)]) ∧ w.alloc (.cells #[.string ⟨s.toArray⟩] 9) = w' := by
  go_enter Tryz.func147, Tryz.ntmps147
  go_wp2
  go_ret
  exact ⟨rfl, rfl⟩

set_option maxRecDepth 100000 in
set_option maxHeartbeats 1000000 in
theorem utf_runes1 (s : List UInt8) (w0 w : World) (B : Nat) (hs : s.length ≤ 1000000) (hB0 : w0.heap.size ≤ B) (hw : Below w0.heap.size w0 w) (hb : Boxed w B 9 (.string ⟨s.toArray⟩)) :
    SeqG Tryz.prog 157 #[.pointer (some ⟨B, 0, none⟩)] encU (Keep w0.heap.size [B]) (Wrote []) (RuneNx s) (RuneS s) (fun _ => True) w := by
  intro lb J Jx W hW hlb hJ hJx hY h0
  refine callsIn_of_wp Tryz.func157 rfl trivial ?_ rfl
  simp only [Tryz.ntmps157, List.size_toArray, List.length_cons, List.length_nil, Nat.reduceAdd, Nat.reduceSub, Array.replicate_succ, Array.replicate_zero, List.push_toArray, List.append_toArray, List.nil_append, List.cons_append]
  have hsz : ByteArray.size ⟨s.toArray⟩ = s.length := by simp [ByteArray.size]
  gi_wp2
  gi_loopw [3, 4, 5] (fun at_ _ _ wr => ∃ (pre : List (Nat × Nat)) (s' : List UInt8) (p' : Nat), at_ = .int .i64 p' ∧ p' ≤ s.length ∧ Below w0.heap.size w0 wr ∧ Boxed wr B 9 (.string ⟨s.toArray⟩) ∧ ChainU s 0 pre s' p' ∧ Hid (s' = s.drop p') ∧ J pre wr)
    (fun at_ _ _ _ => s.length - (intOf at_).toNat)
  case atStart => exact ⟨[], s, 0, rfl, Nat.zero_le _, hw.trans (hW.mono hw.size), boxed_below hb hW, ⟨rfl, rfl⟩, rfl, h0⟩
  case round =>
    obtain ⟨pre, s', p', rfl, hp, hbel, hbx, hch, hs', hj⟩ := hrel
    have hc1 := hbx.cell
    rcases Nat.lt_or_ge p' s.length with hlt | hge
    · have hcut := fun W => str_from s p' hp W
      have hl' : s'.length = s.length - p' := by rw [hs'.out]; simp
      have HC := hid (utf_first s' wr (by omega))
      rw [← hs'.out] at hcut
      have hle := firstF_le s'
      have hbd : badR s' p' = (decide ((firstF s').2 = 0) || decide (65535 < p' + (firstF s').2)) := rfl
      have hne : s' ≠ [] := by intro h; rw [h] at hl'; simp at hl'; omega
      have HNX : ∀ x, (badR s' p' = true ∧ x = (p', 0)) ∨ (badR s' p' = false ∧ x = (p', (firstF s').1)) → RuneNx s pre x wr := fun x hx => ⟨s', p', hch, hne, hx⟩
      have HF := hid (show firstF s' = ((firstF s').1, (firstF s').2) from rfl)
      have HSN := hid (fun h => hch.snoc hne h)
      generalize hq1 : (firstF s').1 = r at *
      generalize hq2 : (firstF s').2 = n at *
      rcases (show n = 0 ∨ (0 < n ∧ 65535 < p' + n) ∨ (0 < n ∧ p' + n ≤ 65535) by omega) with rfl | ⟨hn, hn2⟩ | ⟨hn, hn2⟩
      · skip
        gi_wp2_with fail
        refine inW HC.out ?_
        rintro e w2 ⟨rfl, hb2⟩
        have hbel2 := hbel.trans (hb2.mono hbel.size)
        have hbx2 := boxed_below hbx hb2
        have hj2 := hJ _ _ _ hj (Wrote.of_below hb2)
        obtain ⟨fn, tmps, assign, body, hy, hR⟩ := hY pre (p', 0) w2 hj2 (HNX _ (.inl ⟨by simp [hbd], rfl⟩))
        replace hy : (Instr.yield lb #[.int .i64 (p' : Int), .int .i32 0]).run Tryz.prog w2 = _ := hy
        have HR := hid hR
        clear hR
        gi_wp2_with fail
        refine ⟨rfl, HR.out.mono ?_⟩
        rintro e W3 (⟨rfl, hJ3, hk3⟩ | ⟨rfl, hJx3⟩)
        · gi_wp2
          refine bodyPost_ret (results_none rfl _ _ _) rfl ?_
          exact ⟨⟨_, rfl⟩, .inl ⟨_, .inr ⟨pre, s', p', hch, hne, by simp [hbd], rfl⟩, hJ3⟩⟩
        · gi_wp2
          refine bodyPost_ret (results_none rfl _ _ _) rfl ?_
          exact ⟨⟨_, rfl⟩, .inr ⟨_, trivial, hJx3⟩⟩
      · have e1 : ((n : Int) == 0) = false := by simp; omega
        have hbt : badR s' p' = true := by rw [hbd]; simp; omega
        gi_wp2_with fail
        refine inW HC.out ?_
        rintro e w2 ⟨rfl, hb2⟩
        have hbel2 := hbel.trans (hb2.mono hbel.size)
        have hbx2 := boxed_below hbx hb2
        have hj2 := hJ _ _ _ hj (Wrote.of_below hb2)
        obtain ⟨fn, tmps, assign, body, hy, hR⟩ := hY pre (p', 0) w2 hj2 (HNX _ (.inl ⟨hbt, rfl⟩))
        replace hy : (Instr.yield lb #[.int .i64 (p' : Int), .int .i32 0]).run Tryz.prog w2 = _ := hy
        have HR := hid hR
        clear hR
        gi_wp2_with fail
        refine ⟨rfl, HR.out.mono ?_⟩
        rintro e W3 (⟨rfl, hJ3, hk3⟩ | ⟨rfl, hJx3⟩)
        · gi_wp2
          refine bodyPost_ret (results_none rfl _ _ _) rfl ?_
          exact ⟨⟨_, rfl⟩, .inl ⟨_, .inr ⟨pre, s', p', hch, hne, hbt, rfl⟩, hJ3⟩⟩
        · gi_wp2
          refine bodyPost_ret (results_none rfl _ _ _) rfl ?_
          exact ⟨⟨_, rfl⟩, .inr ⟨_, trivial, hJx3⟩⟩
      · have e1 : ((n : Int) == 0) = false := by simp; omega
        have hbt : badR s' p' = false := by rw [hbd]; simp; omega
        gi_wp2_with fail
        refine inW HC.out ?_
        rintro e w2 ⟨rfl, hb2⟩
        have hbel2 := hbel.trans (hb2.mono hbel.size)
        have hbx2 := boxed_below hbx hb2
        have hj2 := hJ _ _ _ hj (Wrote.of_below hb2)
        obtain ⟨fn, tmps, assign, body, hy, hR⟩ := hY pre (p', r) w2 hj2 (HNX _ (.inr ⟨hbt, rfl⟩))
        replace hy : (Instr.yield lb #[.int .i64 (p' : Int), .int .i32 (r : Int)]).run Tryz.prog w2 = _ := hy
        have HR := hid hR
        clear hR
        gi_wp2_with fail
        refine ⟨rfl, HR.out.mono ?_⟩
        rintro e W3 (⟨rfl, hJ3, hk3⟩ | ⟨rfl, hJx3⟩)
        · have hbx3 : Boxed W3 B 9 _ := (hk3.keep B (by simp)).trans hbx2
          have hbel3 := hbel2.trans hk3.bel
          gi_wp2
          go_roundw
          case rel =>
            refine ⟨pre ++ [(p', r)], s'.drop n, p' + n, by go_num, by omega, hbel3, hbx3, HSN.out hbt, ?_, hJ3⟩
            show s'.drop n = s.drop (p' + n)
            rw [hs'.out, List.drop_drop]
          case measure => simp [intOf]; omega
        · gi_wp2
          refine bodyPost_ret (results_none rfl _ _ _) rfl ?_
          exact ⟨⟨_, rfl⟩, .inr ⟨_, trivial, hJx3⟩⟩
    · obtain rfl : p' = s.length := by omega
      have hnil : s' = [] := by rw [hs'.out]; simp
      subst hnil
      gi_wp2
      refine bodyPost_end (results_none rfl _ _ _) rfl ?_
      exact ⟨⟨_, rfl⟩, .inl ⟨_, .inl ⟨_, hch⟩, hj⟩⟩
end Go.Proofs.YtodbdojjllabmaaGreatDoor
