/- Contracts of package utf: runes and its iterator. · Contracts of package utf: Wrong, Check. · Append within a round of a range over a function. No program in sight. · Append of a whole row, at one operation; reads that are known till an operation far behind. No program in sight. -/
import Derived.Test.YtoinabapaeebfaaGreatDoorPk07
import Derived.Test.YtoinabapaeebfaaGreatDoorPk03
import Derived.IntWalk
import Derived.Test.YtoinabapaeebfaaGreatDoorPk06
import Derived.Laws.AppendOwnNone
set_option linter.unusedSimpArgs false
set_option linter.unusedVariables false
namespace Go.Proofs.YtoinabapaeebfaaGreatDoor
open Go.RowKit Go.Shelf
attribute [local go_sem] Oper.semAt_some

/-- A place and a rune, as they are handed on. -/
def encU (x : Nat × Nat) : Array Value := #[.int .i64 x.1, .int .i32 x.2]
/-- What is known of a rune when it is handed on. -/
def RuneNx (s : List UInt8) (pre : List (Nat × Nat)) (x : Nat × Nat) (_W : World) : Prop :=
  ∃ s' p', ChainU s 0 pre s' p' ∧ s' ≠ [] ∧ ((badR s' p' = true ∧ x = (p', 0)) ∨ (badR s' p' = false ∧ x = (p', (firstF s').1)))
/-- All have come. -/
def RuneS (s : List UInt8) (xs : List (Nat × Nat)) : Prop :=
  (∃ p', ChainU s 0 xs [] p') ∨ ∃ pre s' p', ChainU s 0 pre s' p' ∧ s' ≠ [] ∧ badR s' p' = true ∧ xs = pre ++ [(p', 0)]

set_option maxRecDepth 100000 in
set_option maxHeartbeats 400000 in
theorem utf_runes (s : List UInt8) (w : World) :
    Calls Tryz.prog 217 #[.string ⟨s.toArray⟩] w fun e w' => e = .returned (.func (.func 238) #[] #[.pointer (some ⟨w.heap.size, 0, none⟩)]) ∧ w.alloc (.cells #[.string ⟨s.toArray⟩] 9) = w' := by
  go_enter Tryz.func217, Tryz.ntmps217
  go_wp2
  go_ret
  exact ⟨rfl, rfl⟩

set_option maxRecDepth 100000 in
set_option maxHeartbeats 1000000 in
theorem utf_runes1 (s : List UInt8) (w0 w : World) (B : Nat) (hs : s.length ≤ 1000000) (hB0 : w0.heap.size ≤ B) (hw : Below w0.heap.size w0 w) (hb : Boxed w B 9 (.string ⟨s.toArray⟩)) :
    SeqG Tryz.prog 238 #[.pointer (some ⟨B, 0, none⟩)] encU (Keep w0.heap.size [B]) (Wrote []) (RuneNx s) (RuneS s) (fun _ => True) w := by
  intro lb J Jx W hW hlb hJ hJx hY h0
  refine callsIn_of_wp Tryz.func238 rfl trivial ?_ rfl
  simp only [Tryz.ntmps238, List.size_toArray, List.length_cons, List.length_nil, Nat.reduceAdd, Nat.reduceSub, Array.replicate_succ, Array.replicate_zero, List.push_toArray, List.append_toArray, List.nil_append, List.cons_append]
  have hsz : ByteArray.size ⟨s.toArray⟩ = s.length := by simp [ByteArray.size]
  gi_wp2
  gi_loopw [3, 4, 5] (fun at_ _ _ wr => ∃ (pre : List (Nat × Nat)) (s' : List UInt8) (p' : Nat), at_ = .int .i64 p' ∧ p' ≤ s.length ∧ Below w0.heap.size w0 wr ∧ Boxed wr B 9 (.string ⟨s.toArray⟩) ∧ ChainU s 0 pre s' p' ∧ Hid (s' = s.drop p') ∧ J pre wr)
    (fun at_ _ _ _ => s.length - (intOf at_).toNat)
  case atStart => exact ⟨[], s, 0, rfl, Nat.zero_le _, hw.trans (hW.mono hw.size), boxed_below hb hW, ⟨rfl, rfl⟩, rfl, h0⟩
  case round =>
    obtain ⟨pre, s', p', rfl, hp, hbel, hbx, hch, hs', hj⟩ := hrel
    have hc1 := hbx.cell
    rcases Nat.lt_or_ge p' s.length with hlt | hge
    · have hcut := fun W => str_from s p' hp W
      have hl' : s'.length = s.length - p' := by rw [hs'.out]; simp
      have HC := hid (utf_first s' wr (by omega))
      rw [← hs'.out] at hcut
      have hle := firstF_le s'
      have hbd : badR s' p' = (decide ((firstF s').2 = 0) || decide (65535 < p' + (firstF s').2)) := rfl
      have hne : s' ≠ [] := by intro h; rw [h] at hl'; simp at hl'; omega
      have HNX : ∀ x, (badR s' p' = true ∧ x = (p', 0)) ∨ (badR s' p' = false ∧ x = (p', (firstF s').1)) → RuneNx s pre x wr := fun x hx => ⟨s', p', hch, hne, hx⟩
      have HF := hid (show firstF s' = ((firstF s').1, (firstF s').2) from rfl)
      have HSN := hid (fun h => hch.snoc hne h)
      generalize hq1 : (firstF s').1 = r at *
      generalize hq2 : (firstF s').2 = n at *
      rcases (show n = 0 ∨ (0 < n ∧ 65535 < p' + n) ∨ (0 < n ∧ p' + n ≤ 65535) by omega) with rfl | ⟨hn, hn2⟩ | ⟨hn, hn2⟩
      · skip
        gi_wp2_with fail
        refine inW HC.out ?_
        rintro e w2 ⟨rfl, hb2⟩
        have hbel2 := hbel.trans (hb2.mono hbel.size)
        have hbx2 := boxed_below hbx hb2
        have hj2 := hJ _ _ _ hj (Wrote.of_below hb2)
        obtain ⟨fn, tmps, assign, body, hy, hR⟩ := hY pre (p', 0) w2 hj2 (HNX _ (.inl ⟨by simp [hbd], rfl⟩))
        replace hy : (Instr.yield lb #[.int .i64 (p' : Int), .int .i32 0]).run Tryz.prog w2 = _ := hy
        have HR := hid hR
        clear hR
        gi_wp2_with fail
        refine ⟨rfl, HR.out.mono ?_⟩
        rintro e W3 (⟨rfl, hJ3, hk3⟩ | ⟨rfl, hJx3⟩)
        · gi_wp2
          refine bodyPost_ret (results_none rfl _ _ _) rfl ?_
          exact ⟨⟨_, rfl⟩, .inl ⟨_, .inr ⟨pre, s', p', hch, hne, by simp [hbd], rfl⟩, hJ3⟩⟩
        · gi_wp2
          refine bodyPost_ret (results_none rfl _ _ _) rfl ?_
          exact ⟨⟨_, rfl⟩, .inr ⟨_, trivial, hJx3⟩⟩
      · have e1 : ((n : Int) == 0) = false := by simp; omega
        have hbt : badR s' p' = true := by rw [hbd]; simp; omega
        gi_wp2_with fail
        refine inW HC.out ?_
        rintro e w2 ⟨rfl, hb2⟩
        have hbel2 := hbel.trans (hb2.mono hbel.size)
        have hbx2 := boxed_below hbx hb2
        have hj2 := hJ _ _ _ hj (Wrote.of_below hb2)
        obtain ⟨fn, tmps, assign, body, hy, hR⟩ := hY pre (p', 0) w2 hj2 (HNX _ (.inl ⟨hbt, rfl⟩))
        replace hy : (Instr.yield lb #[.int .i64 (p' : Int), .int .i32 0]).run Tryz.prog w2 = _ := hy
        have HR := hid hR
        clear hR
        gi_wp2_with fail
        refine ⟨rfl, HR.out.mono ?_⟩
        rintro e W3 (⟨rfl, hJ3, hk3⟩ | ⟨rfl, hJx3⟩)
        · gi_wp2
          refine bodyPost_ret (results_none rfl _ _ _) rfl ?_
          exact ⟨⟨_, rfl⟩, .inl ⟨_, .inr ⟨pre, s', p', hch, hne, hbt, rfl⟩, hJ3⟩⟩
        · gi_wp2
          refine bodyPost_ret (results_none rfl _ _ _) rfl ?_
          exact ⟨⟨_, rfl⟩, .inr ⟨_, trivial, hJx3⟩⟩
      · have e1 : ((n : Int) == 0) = false := by simp; omega
        have hbt : badR s' p' = false := by rw [hbd]; simp; omega
        gi_wp2_with fail
        refine inW HC.out ?_
        rintro e w2 ⟨rfl, hb2⟩
        have hbel2 := hbel.trans (hb2.mono hbel.size)
        have hbx2 := boxed_below hbx hb2
        have hj2 := hJ _ _ _ hj (Wrote.of_below hb2)
        obtain ⟨fn, tmps, assign, body, hy, hR⟩ := hY pre (p', r) w2 hj2 (HNX _ (.inr ⟨hbt, rfl⟩))
        replace hy : (Instr.yield lb #[.int .i64 (p' : Int), .int .i32 (r : Int)]).run Tryz.prog w2 = _ := hy
        have HR := hid hR
        clear hR
        gi_wp2_with fail
        refine ⟨rfl, HR.out.mono ?_⟩
        rintro e W3 (⟨rfl, hJ3, hk3⟩ | ⟨rfl, hJx3⟩)
        · have hbx3 : Boxed W3 B 9 _ := (hk3.keep B (by simp)).trans hbx2
          have hbel3 := hbel2.trans hk3.bel
          gi_wp2
          go_roundw
          case rel =>
            refine ⟨pre ++ [(p', r)], s'.drop n, p' + n, by go_num, by omega, hbel3, hbx3, HSN.out hbt, ?_, hJ3⟩
            show s'.drop n = s.drop (p' + n)
            rw [hs'.out, List.drop_drop]
          case measure => simp [intOf]; omega
        · gi_wp2
          refine bodyPost_ret (results_none rfl _ _ _) rfl ?_
          exact ⟨⟨_, rfl⟩, .inr ⟨_, trivial, hJx3⟩⟩
    · obtain rfl : p' = s.length := by omega
      have hnil : s' = [] := by rw [hs'.out]; simp
      subst hnil
      gi_wp2
      refine bodyPost_end (results_none rfl _ _ _) rfl ?_
      exact ⟨⟨_, rfl⟩, .inl ⟨_, .inl ⟨_, hch⟩, hj⟩⟩
end Go.Proofs.YtoinabapaeebfaaGreatDoor
namespace Go.Proofs.YtoinabapaeebfaaGreatDoor
open Go.RowKit Go.Shelf
attribute [local go_sem] Oper.semAt_some

/-- Where a text is wrong; -1: nowhere. -/
def wrongU (s : List UInt8) : Int := match (runesL s 0).2 with
  | none => -1
  | some p => p

theorem firstF_ne (s : List UInt8) (p : Nat) (h : badR s p = false) : (firstF s).1 ≠ 0 ∧ 0 < (firstF s).2 ∧ p + (firstF s).2 ≤ 65535 ∧ mayR (firstF s).1 = true ∧ (firstF s).1 ≤ 1114111 ∧ (firstF s).2 = lenR (firstF s).1 := by
  simp only [badR, Bool.or_eq_false_iff, decide_eq_false_iff_not] at h
  rcases firstF_spec s with h' | ⟨r, n, h', h1, h2, h3, _⟩
  · rw [h'] at h; exact absurd rfl h.1
  · rw [h'] at h ⊢
    refine ⟨h1, by omega, by omega, h2, ?_, h3⟩
    have := (mayR_iff r).1 h2
    dsimp only
    omega

theorem RuneNx.cases {s : List UInt8} {pre : List (Nat × Nat)} {x : Nat × Nat} {W : World} (h : RuneNx s pre x W) : (x.2 = 0 ∧ (runesL s 0).2 = some x.1 ∧ (runesL s 0).1 = pre.map (·.2)) ∨ (x.2 ≠ 0 ∧ x.2 ≤ 1114111) := by
  obtain ⟨s', p', hch, hne, ⟨hb, rfl⟩ | ⟨hb, rfl⟩⟩ := h
  · refine .inl ⟨rfl, ?_⟩
    rw [hch.runes, runesL_bad s' p' hne hb]
    simp
  · exact .inr ⟨(firstF_ne s' p' hb).1, (firstF_ne s' p' hb).2.2.2.2.1⟩
theorem RuneS.cases {s : List UInt8} {xs : List (Nat × Nat)} (h : RuneS s xs) : ((runesL s 0).2 = none ∧ (runesL s 0).1 = xs.map (·.2)) ∨ ∃ x ∈ xs, x.2 = 0 := by
  rcases h with ⟨p', hch⟩ | ⟨pre, s', p', hch, hne, hb, rfl⟩
  · refine .inl ?_
    rw [hch.runes]
    simp [runesL_nil]
  · exact .inr ⟨(p', 0), by simp, rfl⟩

def WrongI (w : World) (pre : List (Nat × Nat)) (W : World) : Prop := (∀ x ∈ pre, x.2 ≠ 0) ∧ Boxed W w.heap.size 3 (.int .i64 0) ∧ Below w.heap.size w W
def WrongX (s : List UInt8) (w : World) (c : Code) (_pre : List (Nat × Nat)) (W : World) : Prop := c = .ret ∧ Boxed W w.heap.size 3 (.int .i64 (wrongU s)) ∧ Below w.heap.size w W

set_option maxRecDepth 100000 in
set_option maxHeartbeats 1000000 in
theorem utf_Wrong (s : List UInt8) (w : World) (hs : s.length ≤ 1000000) :
    Calls Tryz.prog 203 #[.string ⟨s.toArray⟩] w fun e w' => e = .returned (.int .i64 (wrongU s)) ∧ Below w.heap.size w w' := by
  refine calls_marks Tryz.func203 rfl ?_
  simp only [Tryz.ntmps203, List.size_toArray, List.length_cons, List.length_nil, Nat.reduceAdd, Nat.reduceSub, Array.replicate_succ, Array.replicate_zero, List.push_toArray, List.append_toArray, List.nil_append, List.cons_append]
  go_wp2_with fail
  refine (utf_runes s _).mono ?_
  rintro e w' ⟨rfl, rfl⟩
  go_wp2_with fail
  generalize hW0 : ((w.alloc (Obj.cells #[Value.int IntKind.i64 0] 3)).alloc (Obj.cells #[Value.string ⟨s.toArray⟩] 9)) = W0
  have hsz : W0.heap.size = w.heap.size + 2 := by rw [← hW0]; simp
  have hb0 : Below w.heap.size w W0 := by
    rw [← hW0]
    exact ((Below.refl _ w).alloc (Nat.le_refl _) _).alloc (by simp) _
  have hbx : Boxed W0 w.heap.size 3 (.int .i64 0) ∧ Boxed W0 (w.heap.size + 1) 9 (.string ⟨s.toArray⟩) := by
    have e1 := Boxed.new w 3 (.int .i64 0)
    have e2 := Boxed.new (w.alloc (Obj.cells #[Value.int IntKind.i64 0] 3)) 9 (.string ⟨s.toArray⟩)
    simp only [World.size_alloc] at e2
    rw [← hW0]
    exact ⟨e1.alloc _, e2⟩
  obtain ⟨b1, b2⟩ := hbx
  have HW0 := hid hW0; clear hW0
  refine wp_range (α := Nat × Nat) (gf := 238) (lb := #[.pointer (some ⟨w.heap.size + 1, 0, none⟩)]) rfl (enters_of Tryz.func238 (by kernel_rfl) rfl)
    (n₀ := w.heap.size) (L := [w.heap.size + 1]) (M := []) (utf_runes1 s w W0 (w.heap.size + 1) hs (by omega) hb0 b2)
    (by omega) (by simp; omega) (by simp) (fun _ => rfl) (WrongI w) (WrongX s w) ?hI ?hIx ?h0
    (fun pre x a' W => RuneNx s pre x W ∧ a' = { tmps := #[.string ⟨s.toArray⟩, undef, .pointer (some ⟨w.heap.size, 0, none⟩), .int .i64 x.1, .int .i32 x.2, .string ⟨s.toArray⟩, .func (.func 238) #[] #[.pointer (some ⟨w.heap.size + 1, 0, none⟩)], .int .i64 x.1, .int .i32 x.2, undef, undef, undef], defers := [] }) ?hAx ?assign ?body ?done ?stop
  case hI =>
    rintro s A A' ⟨g1, g2, g3⟩ hw
    rw [hsz] at hw
    exact ⟨g1, hw.boxed (by simp <;> omega) g2, g3.trans (hw.below g3.size (by simp <;> omega))⟩
  case hIx =>
    rintro c s A A' ⟨rfl, g1, g2⟩ hw
    rw [hsz] at hw
    exact ⟨rfl, hw.boxed (by simp <;> omega) g1, g2.trans (hw.below g2.size (by simp <;> omega))⟩
  case h0 => exact ⟨by simp, b1, hb0⟩
  case hAx =>
    rintro pre x a' A A' ⟨hx, rfl⟩ hl hw
    exact ⟨hx, rfl⟩
  case assign =>
    intro pre x W K hl hi hx hK
    simp only [encU]
    gi_wp2
    refine hK _ _ (Below.refl _ _) hi ⟨hx, rfl⟩
  case body =>
    rintro pre x a' W hl ⟨g1, g2, g3⟩ ⟨hx, rfl⟩
    have c1 := g2.cell
    have f1 := g2.frozen
    rcases hx.cases with ⟨h1, h2, _⟩ | ⟨h1, h2⟩
    · have hwr : wrongU s = x.1 := by unfold wrongU; rw [h2]
      have HW := hid hwr
      obtain ⟨x1, x2⟩ := x
      dsimp only at h1
      subst h1
      clear h2 hwr
      gi_wp2
      refine ⟨Keep.setCell _ _ (by simp) (by simp <;> omega) _, rfl, ?_, g3.setCell (p := ⟨w.heap.size, 0, none⟩) (by simp) _⟩
      rw [HW.out]
      exact g2.set _
    · have e1 : ((x.2 : Int) == 0) = false := by simp; omega
      gi_wp2
      exact ⟨Keep.refl _ _ _, fun y hy => by rcases List.mem_append.1 hy with hy | hy; exact g1 y hy; rw [List.mem_singleton.1 hy]; exact h1, g2, g3⟩
  case done =>
    rintro xs W hS ⟨g1, g2, g3⟩ hl hD
    rw [hsz] at hl
    have hwr : wrongU s = -1 := by
      rcases hS.cases with ⟨h, _⟩ | ⟨x, hx, h⟩
      · unfold wrongU; rw [h]
      · exact absurd h (g1 x hx)
    have HW := hid hwr
    clear hwr hS
    have c1 := g2.cell
    have f1 := g2.frozen
    go_wp2
    have d1 : Boxed (W.setCell ⟨w.heap.size, 0, none⟩ (.int .i64 (-1))) w.heap.size 3 (.int .i64 (-1)) := g2.set _
    refine ret_mark (v := .int .i64 (-1)) ?_ (fun w' hw' => ?_)
    · exact (Below.heap_setCell _ _ _ _ (by simp; omega)).trans hD
    · have wp : Wrote [W0.heap.size] (W.setCell ⟨w.heap.size, 0, none⟩ (.int .i64 (-1))) w' := by rw [hw']; exact Wrote.putObj _ _ (by simp) _
      have d4 := (wp.boxed (by simp; omega) d1).cell
      have hb : Below w.heap.size w (W.setCell ⟨w.heap.size, 0, none⟩ (.int .i64 (-1))) := g3.setCell (p := ⟨w.heap.size, 0, none⟩) (by simp) _
      exact ⟨by simp [results, Tryz.results203, go_sem, d4], by first | rfl | rw [HW.out], hb.trans (wp.below hb.size (by simp; omega))⟩
  case stop =>
    rintro c pre W _ ⟨rfl, g1, g2⟩ hl hD
    rw [hsz] at hl
    have c1 := g1.cell
    have f1 := g1.frozen
    go_wp2
    have d1 : Boxed W w.heap.size 3 (.int .i64 (wrongU s)) := g1
    refine ret_mark (v := .int .i64 (wrongU s)) ?_ (fun w' hw' => ?_)
    · exact hD
    · have wp : Wrote [W0.heap.size] W w' := by rw [hw']; exact Wrote.putObj _ _ (by simp) _
      have d4 := (wp.boxed (by simp; omega) d1).cell
      have hb : Below w.heap.size w W := g2
      exact ⟨by simp [results, Tryz.results203, go_sem, d4], by first | rfl | rw [HW.out], hb.trans (wp.below hb.size (by simp; omega))⟩

def checkU (s : List UInt8) : Int := if 0 ≤ wrongU s then 220 else 0
theorem wrongU_lo (s : List UInt8) : -1 ≤ wrongU s := by unfold wrongU; split <;> omega

set_option maxRecDepth 100000 in
set_option maxHeartbeats 400000 in
theorem utf_Check (s : List UInt8) (w : World) (hs : s.length ≤ 1000000) :
    Calls Tryz.prog 181 #[.string ⟨s.toArray⟩] w fun e w' => e = .returned (.int .i64 (checkU s)) ∧ Below w.heap.size w w' := by
  unfold checkU
  by_cases h : 0 ≤ wrongU s
  · rw [if_pos h]
    go_enter Tryz.func181, Tryz.ntmps181
    go_wp2_with (go_at_call 203; refine (utf_Wrong s _ hs).mono ?_; rintro e w1 ⟨rfl, hb⟩)
    go_ret
    exact ⟨rfl, hb⟩
  · rw [if_neg h]
    go_enter Tryz.func181, Tryz.ntmps181
    go_wp2_with (go_at_call 203; refine (utf_Wrong s _ hs).mono ?_; rintro e w1 ⟨rfl, hb⟩)
    go_ret
    exact ⟨rfl, hb⟩

end Go.Proofs.YtoinabapaeebfaaGreatDoor
namespace Go.Proofs.YtoinabapaeebfaaGreatDoor
open Go.RowKit Go.Shelf

theorem appendIn_one {F : Fence} {k : Nat} {P : Program} {w : World} {ops : Array Oper} {rest : List Oper} {o : Oper} {a : Act} {Q : Exit → Act → World → Prop} {t e : TypeId} {z : Value} {bytes : Nat} (hgd : o.guard = none) (s x : Operand)
    (ho : o.op = .call { callee := .builtin .append, args := #[s, x], argTypes := #[t, t] }) (E : ElemT P t e z 1 bytes)
    (base : Nat) (v : Value) (n : Nat) (xs : List Value) (hs : a.eval s = v) (hown : w.ownsRow base e 1 v n xs) (u : Value) (hu : u.oneCell' = true) {T : TypeId}
    (hx : a.eval x = .slice (some ⟨w.heap.size, 0, none⟩) 1 1) (h63 : n < 140737488355328) (hbytes : (n + 1) * bytes ≤ 140737488355328) (hbase : base ≤ w.heap.size)
    (h : ∀ v' w', w'.ownsRow base e 1 v' (n + 1) (xs ++ [u]) → w.grownBy w' v.ownBlock → wpListIn F k P ops Q rest (a.put o.dst v') w') : wpListIn F k P ops Q (o :: rest) a (w.alloc (.cells #[u] T)) := by
  obtain ⟨i, hi, hz0, hz1, hz2⟩ := info_parts E.info
  refine wpListIn_append_own _ hgd s x t ho base e i z 1 bytes E.ht hi hz0 hz1 hz2 E.hzs (by decide) v n xs hs (hown.alloc _) ⟨w.heap.size, 0, none⟩ 1 1 [u] hx rfl ?_ ?_ ?_ hbytes ?_ ?_
  · intro j u' hj
    match j, hj with
    | 0, hj => simp at hj; subst hj; exact cell_one_new _ _ _ 0 _ (by simp)
  · intro u' h'; simp at h'; subst h'; exact hu
  · unfold maxLen; omega
  · simp; omega
  · intro v' w' h1 h2 _
    exact h v' w' h1 (grownBy_trans (World.grownBy_alloc w _ none) h2)
end Go.Proofs.YtoinabapaeebfaaGreatDoor
namespace Go.Proofs.YtoinabapaeebfaaGreatDoor
open Go.RowKit Go.Shelf

/-- 'append(own, src...)' from whatever source: the operation alone. -/
theorem wp_append_any {P : Program} {w : World} {o : Oper} {a : Act} {K : Act → World → Prop} {Q : Exit → Act → World → Prop} {t e : TypeId} {z : Value} {bytes : Nat} (s x : Operand)
    (ho : o.op = .call { callee := .builtin .append, args := #[s, x], argTypes := #[t, t] }) (E : ElemT P t e z 1 bytes)
    (base : Nat) (v : Value) (n : Nat) (xs : List Value) (hs : a.eval s = v) (hown : w.ownsRow base e 1 v n xs) (ad : Option Addr) (m c : Nat) (ys : List Value) (hu : ∀ u ∈ ys, u.oneCell' = true)
    (hx : a.eval x = .slice ad m c) (hrow : RowAt w ad m c ys) (h63 : n + m ≤ 140737488355328) (hbytes : (n + m) * bytes ≤ 140737488355328) (hbase : base ≤ w.heap.size)
    (h : ∀ v' w', w'.ownsRow base e 1 v' (n + m) (xs ++ ys) → w.grownBy w' v.ownBlock → K (a.put o.dst v') w') : o.wp P a w K Q := by
  obtain ⟨i, hi, hz0, hz1, hz2⟩ := info_parts E.info
  cases ad with
  | some ad =>
    refine wp_append_own _ s x t ho base e i z 1 bytes E.ht hi hz0 hz1 hz2 E.hzs (by decide) v n xs hs hown ad m c ys hx (by rw [hrow.len]; omega) ?_ hu ?_ hbytes hbase (fun v' w' h1 h2 _ => h v' w' h1 h2)
    · intro j u hj
      have hjm : j < m := by have := (List.getElem?_eq_some_iff.1 hj).1; have := hrow.len; omega
      obtain ⟨b, off, ha, hc⟩ := hrow.cells j hjm
      cases ha
      rw [hj] at hc
      by_cases h0 : j = 0
      · subst h0; simpa [Addr.add] using hc
      · simpa [Addr.add, h0] using hc
    · unfold maxLen; omega
  | none =>
    have hc := hrow.hnil rfl
    have hm : m = 0 := by have := hrow.le; omega
    have hy : ys = [] := List.eq_nil_of_length_eq_zero (by rw [hrow.len, hm])
    subst hc hm hy
    have hrun := run_append_owned_none (P := P) (w := w) base t o.type e i 1 E.ht hi v n xs hown
    unfold Oper.wp
    simp [execOp, ho, resolve, invoke, builtin, hs, hx, hrun, Result.andThen]
    exact h v w (by simpa using hown) (World.grownBy.refl w _)

section
variable {P : Program} {ops : Array Oper}
/-- Operation k waits for i, by others too. -/
def waitsT (md : Region.Mode) (ops : Array Oper) (i : Nat) : Nat → Nat → Bool
  | 0, _ => false
  | f + 1, k => match ops[k]? with
    | none => true
    | some o => o.after.any fun e => Region.binds md e && (e.on == i || ((ops[e.on]?).isSome && waitsT md ops i f e.on))
theorem listed_get {md : Region.Mode} {listed : Array Bool} (hc : ClosedL md ops listed) (k : Nat) (h : ops[k]? = none) : listed.getD k false = false := by
  have h1 := Array.getElem?_eq_none_iff.1 h
  have h2 : listed[k]? = none := Array.getElem?_eq_none_iff.2 (by rw [hc.1]; exact h1)
  rw [Array.getD_eq_getD_getElem?, h2]
  rfl
theorem waitsT_spec {md : Region.Mode} {listed : Array Bool} {i : Nat} (hc : ClosedL md ops listed) (hn : listed.getD i true = false) : ∀ (f k : Nat), waitsT md ops i f k = true → listed.getD k false = false
  | 0, _, h => by cases h
  | f + 1, k, h => by
    unfold waitsT at h
    cases hk : ops[k]? with
    | none => exact listed_get hc k hk
    | some o =>
      rw [hk] at h
      obtain ⟨e, he, hb⟩ := Array.any_eq_true'.1 h
      simp only [Bool.and_eq_true, Bool.or_eq_true, beq_iff_eq] at hb
      cases hl : listed.getD k false with
      | false => rfl
      | true =>
        exfalso
        have h1 := hc.2 k o hk hl e he hb.1
        rcases hb.2 with h2 | ⟨-, h2⟩
        · rw [h2] at h1
          rcases Nat.lt_or_ge i listed.size with h' | h'
          · simp [h'] at hn h1; rw [hn] at h1; cases h1
          · simp [Array.getElem?_eq_none h'] at h1
        · have h3 := waitsT_spec hc hn f e.on h2
          rw [h1] at h3
          cases h3
theorem upR.getT {md : Region.Mode} {facts : List Fact} {i : Nat} {w : World} (h : upR md ops facts i w) (k : Nat) (p : World → Prop) (hm : (k, p) ∈ facts) (hw : waitsT md ops i (ops.size + 1) k = true) : p w := by
  obtain ⟨listed, h1, h2, h3⟩ := h
  exact h3 _ hm (waitsT_spec h1 h2 _ _ hw)
variable {KQ : Act → World → Prop} {facts : List Fact} {taken : List Nat} {a : Act} {w : World}
theorem loadT (i : Nat) {oi : Oper} (hi : ops[i]? = some oi) (hB : takeB ops (facts.map (·.1)) taken i = true) (hw : Region.wanted oi (yielded ops a.tmps) = true) {t : TypeId} {x : Operand} (hop : oi.op = .load t x) {u : Value} (hx : a.eval x = u)
    (n : Nat) {k : Nat} {p : World → Prop} (hf : facts[n]? = some (k, p)) (hk : waitsT .any ops i (ops.size + 1) k = true) (v : Value) (hr : ∀ w', p w' → (Instr.loadAt t u).run P w' = .ok v w')
    (h : atR P ops KQ facts (i :: taken) (a.put oi.dst v) w) : atR P ops KQ facts taken a w := by
  refine readyR i hi hB v (.inl ⟨hw, fun w' hu => ?_⟩) h
  have h1 := hr w' (hu.getT k p (List.mem_of_getElem? hf) hk)
  simp only [execOp, hop, hx, Sem.run_bind, h1, Result.andThen_ok, Sem.run_pure]
theorem convT (i : Nat) {oi : Oper} (hi : ops[i]? = some oi) (hB : takeB ops (facts.map (·.1)) taken i = true) (hw : Region.wanted oi (yielded ops a.tmps) = true) {s t : TypeId} {x : Operand} (hop : oi.op = .convert s t x) {u : Value} (hx : a.eval x = u)
    (n : Nat) {k : Nat} {p : World → Prop} (hf : facts[n]? = some (k, p)) (hk : waitsT .any ops i (ops.size + 1) k = true) (v : Value) (hr : ∀ w', p w' → (convert s t u).run P w' = .ok v w')
    (h : atR P ops KQ facts (i :: taken) (a.put oi.dst v) w) : atR P ops KQ facts taken a w := by
  refine readyR i hi hB v (.inl ⟨hw, fun w' hu => ?_⟩) h
  have h1 := hr w' (hu.getT k p (List.mem_of_getElem? hf) hk)
  simp only [execOp, hop, hx, Sem.run_bind, h1, Result.andThen_ok, Sem.run_pure]
end
end Go.Proofs.YtoinabapaeebfaaGreatDoor
