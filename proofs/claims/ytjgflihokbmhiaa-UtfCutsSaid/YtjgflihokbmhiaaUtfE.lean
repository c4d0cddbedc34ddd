/- Contracts of package utf: Wrong, Check, none, Plain. -/
import Derived.Test.YtjgflihokbmhiaaUtfD
namespace Go.Proofs.Ytjgflihokbmhiaa
open Go.RowKit Go.Shelf
attribute [local go_sem] Oper.semAt_some

/-- Where a text is wrong; -1: nowhere. -/
def wrongU (s : List UInt8) : Int := match (runesL s 0).2 with
  | none => -1
  | some p => p

theorem firstF_ne (s : List UInt8) (p : Nat) (h : badR s p = false) : (firstF s).1 ≠ 0 ∧ 0 < (firstF s).2 ∧ p + (firstF s).2 ≤ 65535 ∧ mayR (firstF s).1 = true ∧ (firstF s).1 ≤ 1114111 ∧ (firstF s).2 = lenR (firstF s).1 := by
  simp only [badR, Bool.or_eq_false_iff, decide_eq_false_iff_not] at h
  rcases firstF_spec s with h' | ⟨r, n, h', h1, h2, h3, _⟩
  · rw [h'] at h; exact absurd rfl h.1
  · rw [h'] at h ⊢
    refine ⟨h1, by omega, by omega, h2, ?_, h3⟩
    have := (mayR_iff r).1 h2
    dsimp only
    omega

theorem RuneNx.cases {s : List UInt8} {pre : List (Nat × Nat)} {x : Nat × Nat} {W : World} (h : RuneNx s pre x W) : (x.2 = 0 ∧ (runesL s 0).2 = some x.1 ∧ (runesL s 0).1 = pre.map (·.2)) ∨ (x.2 ≠ 0 ∧ x.2 ≤ 1114111) := by
  obtain ⟨s', p', hch, hne, ⟨hb, rfl⟩ | ⟨hb, rfl⟩⟩ := h
  · refine .inl ⟨rfl, ?_⟩
    rw [hch.runes, runesL_bad s' p' hne hb]
    simp
  · exact .inr ⟨(firstF_ne s' p' hb).1, (firstF_ne s' p' hb).2.2.2.2.1⟩
theorem RuneS.cases {s : List UInt8} {xs : List (Nat × Nat)} (h : RuneS s xs) : ((runesL s 0).2 = none ∧ (runesL s 0).1 = xs.map (·.2)) ∨ ∃ x ∈ xs, x.2 = 0 := by
  rcases h with ⟨p', hch⟩ | ⟨pre, s', p', hch, hne, hb, rfl⟩
  · refine .inl ?_
    rw [hch.runes]
    simp [runesL_nil]
  · exact .inr ⟨(p', 0), by simp, rfl⟩

def WrongI (w : World) (pre : List (Nat × Nat)) (W : World) : Prop := (∀ x ∈ pre, x.2 ≠ 0) ∧ Boxed W w.heap.size 3 (.int .i64 0) ∧ Below w.heap.size w W
def WrongX (s : List UInt8) (w : World) (c : Code) (_pre : List (Nat × Nat)) (W : World) : Prop := c = .ret ∧ Boxed W w.heap.size 3 (.int .i64 (wrongU s)) ∧ Below w.heap.size w W

set_option maxRecDepth 100000 in
set_option maxHeartbeats 1000000 in
theorem utf_Wrong (s : List UInt8) (w : World) (hs : s.length ≤ 1000000) :
    Calls Try.prog 23 #[.string ⟨s.toArray⟩] w fun e w' => e = .returned (.int .i64 (wrongU s)) ∧ Below w.heap.size w w' := by
  refine calls_marks Try.func23 rfl ?_
  simp only [Try.ntmps23, List.size_toArray, List.length_cons, List.length_nil, Nat.reduceAdd, Nat.reduceSub, Array.replicate_succ, Array.replicate_zero, List.push_toArray, List.append_toArray, List.nil_append, List.cons_append]
  go_wp2_with fail
  refine (utf_runes s _).mono ?_
  rintro e w' ⟨rfl, rfl⟩
  go_wp2_with fail
  generalize hW0 : ((w.alloc (Obj.cells #[Value.int IntKind.i64 0] 3)).alloc (Obj.cells #[Value.string ⟨s.toArray⟩] 9)) = W0
  have hsz : W0.heap.size = w.heap.size + 2 := by rw [← hW0]; simp
  have hb0 : Below w.heap.size w W0 := by
    rw [← hW0]
    exact ((Below.refl _ w).alloc (Nat.le_refl _) _).alloc (by simp) _
  have hbx : Boxed W0 w.heap.size 3 (.int .i64 0) ∧ Boxed W0 (w.heap.size + 1) 9 (.string ⟨s.toArray⟩) := by
    have e1 := Boxed.new w 3 (.int .i64 0)
    have e2 := Boxed.new (w.alloc (Obj.cells #[Value.int IntKind.i64 0] 3)) 9 (.string ⟨s.toArray⟩)
    simp only [World.size_alloc] at e2
    rw [← hW0]
    exact ⟨e1.alloc _, e2⟩
  obtain ⟨b1, b2⟩ := hbx
  have HW0 := hid hW0; clear hW0
  refine wp_range (α := Nat × Nat) (gf := 55) (lb := #[.pointer (some ⟨w.heap.size + 1, 0, none⟩)]) rfl (enters_of Try.func55 (by kernel_rfl) rfl)
    (n₀ := w.heap.size) (L := [w.heap.size + 1]) (M := []) (utf_runes1 s w W0 (w.heap.size + 1) hs (by omega) hb0 b2)
    (by omega) (by simp; omega) (by simp) (fun _ => rfl) (WrongI w) (WrongX s w) ?hI ?hIx ?h0
    (fun pre x a' W => RuneNx s pre x W ∧ a' = { tmps := #[.string ⟨s.toArray⟩, undef, .pointer (some ⟨w.heap.size, 0, none⟩), .int .i64 x.1, .int .i32 x.2, .string ⟨s.toArray⟩, .func (.func 55) #[] #[.pointer (some ⟨w.heap.size + 1, 0, none⟩)], .int .i64 x.1, .int .i32 x.2, undef, undef, undef], defers := [] }) ?hAx ?assign ?body ?done ?stop
  case hI =>
    rintro s A A' ⟨g1, g2, g3⟩ hw
    rw [hsz] at hw
    exact ⟨g1, hw.boxed (by simp <;> omega) g2, g3.trans (hw.below g3.size (by simp <;> omega))⟩
  case hIx =>
    rintro c s A A' ⟨rfl, g1, g2⟩ hw
    rw [hsz] at hw
    exact ⟨rfl, hw.boxed (by simp <;> omega) g1, g2.trans (hw.below g2.size (by simp <;> omega))⟩
  case h0 => exact ⟨by simp, b1, hb0⟩
  case hAx =>
    rintro pre x a' A A' ⟨hx, rfl⟩ hl hw
    exact ⟨hx, rfl⟩
  case assign =>
    intro pre x W K hl hi hx hK
    simp only [encU]
    gi_wp2
    refine hK _ _ (Below.refl _ _) hi ⟨hx, rfl⟩
  case body =>
    rintro pre x a' W hl ⟨g1, g2, g3⟩ ⟨hx, rfl⟩
    have c1 := g2.cell
    have f1 := g2.frozen
    rcases hx.cases with ⟨h1, h2, _⟩ | ⟨h1, h2⟩
    · have hwr : wrongU s = x.1 := by unfold wrongU; rw [h2]
      have HW := hid hwr
      obtain ⟨x1, x2⟩ := x
      dsimp only at h1
      subst h1
      clear h2 hwr
      gi_wp2
      refine ⟨Keep.setCell _ _ (by simp) (by simp <;> omega) _, rfl, ?_, g3.setCell (p := ⟨w.heap.size, 0, none⟩) (by simp) _⟩
      rw [HW.out]
      exact g2.set _
    · have e1 : ((x.2 : Int) == 0) = false := by simp; omega
      gi_wp2
      exact ⟨Keep.refl _ _ _, fun y hy => by rcases List.mem_append.1 hy with hy | hy; exact g1 y hy; rw [List.mem_singleton.1 hy]; exact h1, g2, g3⟩
  case done =>
    rintro xs W hS ⟨g1, g2, g3⟩ hl hD
    rw [hsz] at hl
    have hwr : wrongU s = -1 := by
      rcases hS.cases with ⟨h, _⟩ | ⟨x, hx, h⟩
      · unfold wrongU; rw [h]
      · exact absurd h (g1 x hx)
    have HW := hid hwr
    clear hwr hS
    have c1 := g2.cell
    have f1 := g2.frozen
    go_wp2
    have d1 : Boxed (W.setCell ⟨w.heap.size, 0, none⟩ (.int .i64 (-1))) w.heap.size 3 (.int .i64 (-1)) := g2.set _
    refine ret_mark (v := .int .i64 (-1)) ?_ (fun w' hw' => ?_)
    · exact (Below.heap_setCell _ _ _ _ (by simp; omega)).trans hD
    · have wp : Wrote [W0.heap.size] (W.setCell ⟨w.heap.size, 0, none⟩ (.int .i64 (-1))) w' := by rw [hw']; exact Wrote.putObj _ _ (by simp) _
      have d4 := (wp.boxed (by simp; omega) d1).cell
      have hb : Below w.heap.size w (W.setCell ⟨w.heap.size, 0, none⟩ (.int .i64 (-1))) := g3.setCell (p := ⟨w.heap.size, 0, none⟩) (by simp) _
      exact ⟨by simp [results, Try.results23, go_sem, d4], by first | rfl | rw [HW.out], hb.trans (wp.below hb.size (by simp; omega))⟩
  case stop =>
    rintro c pre W _ ⟨rfl, g1, g2⟩ hl hD
    rw [hsz] at hl
    have c1 := g1.cell
    have f1 := g1.frozen
    go_wp2
    have d1 : Boxed W w.heap.size 3 (.int .i64 (wrongU s)) := g1
    refine ret_mark (v := .int .i64 (wrongU s)) ?_ (fun w' hw' => ?_)
    · exact hD
    · have wp : Wrote [W0.heap.size] W w' := by rw [hw']; exact Wrote.putObj _ _ (by simp) _
      have d4 := (wp.boxed (by simp; omega) d1).cell
      have hb : Below w.heap.size w W := g2
      exact ⟨by simp [results, Try.results23, go_sem, d4], by first | rfl | rw [HW.out], hb.trans (wp.below hb.size (by simp; omega))⟩

def checkU (s : List UInt8) : Int := if 0 ≤ wrongU s then 220 else 0
theorem wrongU_lo (s : List UInt8) : -1 ≤ wrongU s := by unfold wrongU; split <;> omega

set_option maxRecDepth 100000 in
set_option maxHeartbeats 400000 in
theorem utf_Check (s : List UInt8) (w : World) (hs : s.length ≤ 1000000) :
    Calls Try.prog 21 #[.string ⟨s.toArray⟩] w fun e w' => e = .returned (.int .i64 (checkU s)) ∧ Below w.heap.size w w' := by
  unfold checkU
  by_cases h : 0 ≤ wrongU s
  · rw [if_pos h]
    go_enter Try.func21, Try.ntmps21
    go_wp2_with (go_at_call 23; refine (utf_Wrong s _ hs).mono ?_; rintro e w1 ⟨rfl, hb⟩)
    go_ret
    exact ⟨rfl, hb⟩
  · rw [if_neg h]
    go_enter Try.func21, Try.ntmps21
    go_wp2_with (go_at_call 23; refine (utf_Wrong s _ hs).mono ?_; rintro e w1 ⟨rfl, hb⟩)
    go_ret
    exact ⟨rfl, hb⟩

/-- Is a rune none that is plain? -/
def oddR (r : Nat) : Bool := decide (r < 32) || (decide (127 ≤ r) && decide (r ≤ 159)) || (decide (64976 ≤ r) && decide (r ≤ 65007)) || decide (65534 ≤ r % 65536)

theorem and_65534 (q : Nat) : q &&& 65534 = (q / 2 % 32768) * 2 := by
  have h1 : (q &&& 65534) / 2 = q / 2 % 32768 := by
    rw [Nat.and_div_two, show 65534 / 2 = 2 ^ 15 - 1 from rfl, Nat.and_two_pow_sub_one_eq_mod]
  have h2 : (q &&& 65534) % 2 = 0 := by
    have := Nat.and_mod_two_pow (a := q) (b := 65534) (n := 1)
    simpa using this
  omega
theorem i32_and65534 (q : Nat) (h : q < 2147483648) : bits .and .i32 (q : Int) 65534 = (((q / 2 % 32768) * 2 : Nat) : Int) := by
  show IntKind.i32.wrap ((BitVec.ofInt 32 (q : Int) &&& BitVec.ofInt 32 ((65534 : Nat) : Int)).toNat : Int) = _
  rw [BitVec.toNat_and, ofInt_i32 q h, ofInt_i32 65534 (by omega), IntKind.wrap_i32, and_65534]
  omega

set_option maxRecDepth 100000 in
set_option maxHeartbeats 400000 in
theorem utf_Plain1 (r : Nat) (w : World) (hr : r ≤ 1114111) :
    Calls Try.prog 47 #[.int .i32 r] w fun e w' => e = .returned (.bool (oddR r)) ∧ w = w' := by
  have ha := i32_and65534 r (by omega)
  have fin : ∀ b : Bool, oddR r = b → Ending.returned (.bool b) = .returned (.bool (oddR r)) := fun b h => by rw [h]
  have HF := hid fin
  clear fin
  by_cases h1 : r < 32
  · skip
    go_enter Try.func47, Try.ntmps47
    go_wp2
    all_goals (go_ret; exact ⟨HF.out _ (by simp [oddR, h1]; try omega), rfl⟩)
  by_cases h2 : 127 ≤ r
  · by_cases h3 : r ≤ 159
    · skip
      go_enter Try.func47, Try.ntmps47
      go_wp2
      all_goals (go_ret; exact ⟨HF.out _ (by simp [oddR, h2, h3]; try omega), rfl⟩)
    · skip
      by_cases h4 : 64976 ≤ r
      · by_cases h5 : r ≤ 65007
        · skip
          go_enter Try.func47, Try.ntmps47
          go_wp2
          all_goals (go_ret; exact ⟨HF.out _ (by simp [oddR, h1, h3, h4, h5]; try omega), rfl⟩)
        · skip
          by_cases h6 : 65534 ≤ r % 65536
          · have e6 : (((r / 2 % 32768 * 2 : Nat) : Int) == 65534) = true := by first | (rw [beq_iff_eq]; omega) | (rw [beq_eq_false_iff_ne]; omega)
            go_enter Try.func47, Try.ntmps47
            go_wp2
            all_goals (go_ret; exact ⟨HF.out _ (by simp [oddR, h1, h3, h4, h5, h6]; try omega), rfl⟩)
          · have e6 : (((r / 2 % 32768 * 2 : Nat) : Int) == 65534) = false := by first | (rw [beq_iff_eq]; omega) | (rw [beq_eq_false_iff_ne]; omega)
            go_enter Try.func47, Try.ntmps47
            go_wp2
            all_goals (go_ret; exact ⟨HF.out _ (by simp [oddR, h1, h3, h4, h5, h6]; try omega), rfl⟩)
      · skip
        by_cases h6 : 65534 ≤ r % 65536
        · have e6 : (((r / 2 % 32768 * 2 : Nat) : Int) == 65534) = true := by first | (rw [beq_iff_eq]; omega) | (rw [beq_eq_false_iff_ne]; omega)
          go_enter Try.func47, Try.ntmps47
          go_wp2
          all_goals (go_ret; exact ⟨HF.out _ (by simp [oddR, h1, h3, h4, h6]; try omega), rfl⟩)
        · have e6 : (((r / 2 % 32768 * 2 : Nat) : Int) == 65534) = false := by first | (rw [beq_iff_eq]; omega) | (rw [beq_eq_false_iff_ne]; omega)
          go_enter Try.func47, Try.ntmps47
          go_wp2
          all_goals (go_ret; exact ⟨HF.out _ (by simp [oddR, h1, h3, h4, h6]; try omega), rfl⟩)
  · skip
    by_cases h4 : 64976 ≤ r
    · by_cases h5 : r ≤ 65007
      · skip
        go_enter Try.func47, Try.ntmps47
        go_wp2
        all_goals (go_ret; exact ⟨HF.out _ (by simp [oddR, h1, h2, h4, h5]; try omega), rfl⟩)
      · skip
        by_cases h6 : 65534 ≤ r % 65536
        · have e6 : (((r / 2 % 32768 * 2 : Nat) : Int) == 65534) = true := by first | (rw [beq_iff_eq]; omega) | (rw [beq_eq_false_iff_ne]; omega)
          go_enter Try.func47, Try.ntmps47
          go_wp2
          all_goals (go_ret; exact ⟨HF.out _ (by simp [oddR, h1, h2, h4, h5, h6]; try omega), rfl⟩)
        · have e6 : (((r / 2 % 32768 * 2 : Nat) : Int) == 65534) = false := by first | (rw [beq_iff_eq]; omega) | (rw [beq_eq_false_iff_ne]; omega)
          go_enter Try.func47, Try.ntmps47
          go_wp2
          all_goals (go_ret; exact ⟨HF.out _ (by simp [oddR, h1, h2, h4, h5, h6]; try omega), rfl⟩)
    · skip
      by_cases h6 : 65534 ≤ r % 65536
      · have e6 : (((r / 2 % 32768 * 2 : Nat) : Int) == 65534) = true := by first | (rw [beq_iff_eq]; omega) | (rw [beq_eq_false_iff_ne]; omega)
        go_enter Try.func47, Try.ntmps47
        go_wp2
        all_goals (go_ret; exact ⟨HF.out _ (by simp [oddR, h1, h2, h4, h6]; try omega), rfl⟩)
      · have e6 : (((r / 2 % 32768 * 2 : Nat) : Int) == 65534) = false := by first | (rw [beq_iff_eq]; omega) | (rw [beq_eq_false_iff_ne]; omega)
        go_enter Try.func47, Try.ntmps47
        go_wp2
        all_goals (go_ret; exact ⟨HF.out _ (by simp [oddR, h1, h2, h4, h6]; try omega), rfl⟩)

/-- Is a text plain? -/
def plainU (s : List UInt8) : Bool := (runesL s 0).2.isNone && (runesL s 0).1.all (fun r => !oddR r)

theorem RuneNx.odd {s : List UInt8} {pre : List (Nat × Nat)} {x : Nat × Nat} {W : World} (h : RuneNx s pre x W) (ho : oddR x.2 = true) : plainU s = false := by
  unfold plainU
  obtain ⟨s', p', hch, hne, ⟨hb, rfl⟩ | ⟨hb, rfl⟩⟩ := h
  · rw [hch.runes, runesL_bad s' p' hne hb]
    rfl
  · have h2 := (hch.snoc hne hb).runes
    rw [h2, Bool.and_eq_false_iff]
    refine .inr ?_
    simp only [List.all_eq_false]
    exact ⟨(firstF s').1, by simp, by rw [ho]; simp⟩
theorem RuneS.plain {s : List UInt8} {xs : List (Nat × Nat)} (h : RuneS s xs) (ho : ∀ x ∈ xs, oddR x.2 = false) : plainU s = true := by
  rcases h.cases with ⟨h1, h2⟩ | ⟨x, hx, h0⟩
  · unfold plainU
    rw [h1, h2]
    simp only [Option.isNone_none, Bool.true_and, List.all_map, List.all_eq_true]
    intro x hx
    simp [ho x hx]
  · have := ho x hx
    rw [h0] at this
    exact absurd this (by decide)
theorem RuneNx.le {s : List UInt8} {pre : List (Nat × Nat)} {x : Nat × Nat} {W : World} (h : RuneNx s pre x W) : x.2 ≤ 1114111 := by
  rcases h.cases with h | h
  · rw [h.1]; omega
  · exact h.2

def NoneI (w : World) (pre : List (Nat × Nat)) (W : World) : Prop := (∀ x ∈ pre, oddR x.2 = false) ∧ Boxed W w.heap.size 60 (.func (.func 47) #[] #[]) ∧ Boxed W (w.heap.size + 1) 4 (.bool false) ∧ Below w.heap.size w W
def NoneX (s : List UInt8) (w : World) (c : Code) (_pre : List (Nat × Nat)) (W : World) : Prop := c = .ret ∧ Boxed W (w.heap.size + 1) 4 (.bool (plainU s)) ∧ Below w.heap.size w W

theorem utf_runes0 (s : List UInt8) (w : World) (B : Nat) (hs : s.length ≤ 1000000) (hb : Boxed w B 9 (.string ⟨s.toArray⟩)) :
    SeqG Try.prog 55 #[.pointer (some ⟨B, 0, none⟩)] encU (Keep 0 [B]) (Wrote []) (RuneNx s) (RuneS s) (fun _ => True) w :=
  utf_runes1 s { w with heap := #[] } w B hs (Nat.zero_le _) ⟨rfl, rfl, rfl, Nat.zero_le _, fun k hk => absurd hk (Nat.not_lt_zero _)⟩ hb

set_option maxRecDepth 100000 in
set_option maxHeartbeats 1000000 in
theorem utf_none (s : List UInt8) (w : World) (B : Nat) (hs : s.length ≤ 1000000) (hb : Boxed w B 9 (.string ⟨s.toArray⟩)) :
    Calls Try.prog 46 #[.func (.func 55) #[] #[.pointer (some ⟨B, 0, none⟩)], .func (.func 47) #[] #[]] w fun e w' => e = .returned (.bool (plainU s)) ∧ Below w.heap.size w w' := by
  have hBl := hb.lt
  refine calls_marks Try.func46 rfl ?_
  simp only [Try.ntmps46, List.size_toArray, List.length_cons, List.length_nil, Nat.reduceAdd, Nat.reduceSub, Array.replicate_succ, Array.replicate_zero, List.push_toArray, List.append_toArray, List.nil_append, List.cons_append]
  go_wp2_with fail
  generalize hW0 : ((w.alloc (Obj.cells #[.func (.func 47) #[] #[]] 60)).alloc (Obj.cells #[Value.bool false] 4)) = W0
  have hsz : W0.heap.size = w.heap.size + 2 := by rw [← hW0]; simp
  have hb0 : Below w.heap.size w W0 := by
    rw [← hW0]
    exact ((Below.refl _ w).alloc (Nat.le_refl _) _).alloc (by simp) _
  have hbx : Boxed W0 w.heap.size 60 (.func (.func 47) #[] #[]) ∧ Boxed W0 (w.heap.size + 1) 4 (.bool false) := by
    have e1 := Boxed.new w 60 (.func (.func 47) #[] #[])
    have e2 := Boxed.new (w.alloc (Obj.cells #[.func (.func 47) #[] #[]] 60)) 4 (.bool false)
    simp only [World.size_alloc] at e2
    rw [← hW0]
    exact ⟨e1.alloc _, e2⟩
  obtain ⟨b1, b2⟩ := hbx
  have HW0 := hid hW0; clear hW0
  refine wp_range (α := Nat × Nat) (gf := 55) (lb := #[.pointer (some ⟨B, 0, none⟩)]) rfl (enters_of Try.func55 (by kernel_rfl) rfl)
    (n₀ := 0) (L := [B]) (M := []) (utf_runes0 s W0 B hs (boxed_below hb hb0))
    (Nat.zero_le _) (by simp; omega) (by simp) (fun _ => rfl) (NoneI w) (NoneX s w) ?hI ?hIx ?h0
    (fun pre x a' W => RuneNx s pre x W ∧ a' = { tmps := #[.func (.func 55) #[] #[.pointer (some ⟨B, 0, none⟩)], .func (.func 47) #[] #[], undef, .pointer (some ⟨w.heap.size, 0, none⟩), .pointer (some ⟨w.heap.size + 1, 0, none⟩), undef, .int .i32 x.2,
      .func (.func 55) #[] #[.pointer (some ⟨B, 0, none⟩)], .int .i64 x.1, .int .i32 x.2, undef, undef, undef], defers := [] }) ?hAx ?assign ?body ?done ?stop
  case hI =>
    rintro s A A' ⟨g1, g2, g3, g4⟩ hw
    rw [hsz] at hw
    exact ⟨g1, hw.boxed (by simp <;> omega) g2, hw.boxed (by simp <;> omega) g3, g4.trans (hw.below g4.size (by simp <;> omega))⟩
  case hIx =>
    rintro c s A A' ⟨rfl, g1, g2⟩ hw
    rw [hsz] at hw
    exact ⟨rfl, hw.boxed (by simp <;> omega) g1, g2.trans (hw.below g2.size (by simp <;> omega))⟩
  case h0 => exact ⟨by simp, b1, b2, hb0⟩
  case hAx =>
    rintro pre x a' A A' ⟨hx, rfl⟩ hl hw
    exact ⟨hx, rfl⟩
  case assign =>
    intro pre x W K hl hi hx hK
    simp only [encU]
    gi_wp2
    refine hK _ _ (Below.refl _ _) hi ⟨hx, rfl⟩
  case body =>
    rintro pre x a' W hl ⟨g1, g2, g3, g4⟩ ⟨hx, rfl⟩
    have c1 := g2.cell
    have c2 := g3.cell
    have f2 := g3.frozen
    have HP := hid (fun W => utf_Plain1 x.2 W hx.le)
    have HO := hid hx.odd
    cases ho : oddR x.2
    · rw [ho] at HP
      gi_wp2_with (refine inW (HP.out _) ?_; rintro e w' ⟨rfl, rfl⟩)
      exact ⟨Keep.refl _ _ _, fun y hy => by rcases List.mem_append.1 hy with hy | hy; exact g1 y hy; rw [List.mem_singleton.1 hy]; exact ho, g2, g3, g4⟩
    · rw [ho] at HP HO
      gi_wp2_with (refine inW (HP.out _) ?_; rintro e w' ⟨rfl, rfl⟩)
      refine ⟨Keep.setCell _ _ (by simp) (by simp <;> omega) _, rfl, ?_, g4.setCell (p := ⟨w.heap.size + 1, 0, none⟩) (by simp) _⟩
      rw [HO.out (by trivial)]
      exact g3.set _
  case done =>
    rintro xs W hS ⟨g1, g2, g3, g4⟩ hl hD
    rw [hsz] at hl
    have HP := hid (hS.plain g1)
    clear hS
    have c1 := g3.cell
    have f1 := g3.frozen
    go_wp2
    have d1 : Boxed (W.setCell ⟨w.heap.size + 1, 0, none⟩ (.bool true)) (w.heap.size + 1) 4 (.bool true) := g3.set _
    refine ret_mark (v := .bool true) ?_ (fun w' hw' => ?_)
    · exact (Below.heap_setCell _ _ _ _ (by simp; omega)).trans hD
    · have wp : Wrote [W0.heap.size] (W.setCell ⟨w.heap.size + 1, 0, none⟩ (.bool true)) w' := by rw [hw']; exact Wrote.putObj _ _ (by simp) _
      have d4 := (wp.boxed (by simp; omega) d1).cell
      have hb : Below w.heap.size w (W.setCell ⟨w.heap.size + 1, 0, none⟩ (.bool true)) := g4.setCell (p := ⟨w.heap.size + 1, 0, none⟩) (by simp) _
      exact ⟨by simp [results, Try.results46, go_sem, d4], by rw [HP.out], hb.trans (wp.below hb.size (by simp; omega))⟩
  case stop =>
    rintro c pre W _ ⟨rfl, g1, g2⟩ hl hD
    rw [hsz] at hl
    have c1 := g1.cell
    have f1 := g1.frozen
    go_wp2
    refine ret_mark (v := .bool (plainU s)) hD (fun w' hw' => ?_)
    have wp : Wrote [W0.heap.size] W w' := by rw [hw']; exact Wrote.putObj _ _ (by simp) _
    have d4 := (wp.boxed (by simp; omega) g1).cell
    exact ⟨by simp [results, Try.results46, go_sem, d4], rfl, g2.trans (wp.below g2.size (by simp; omega))⟩

set_option maxRecDepth 100000 in
set_option maxHeartbeats 400000 in
theorem utf_Plain (s : List UInt8) (w : World) (hs : s.length ≤ 1000000) :
    Calls Try.prog 22 #[.string ⟨s.toArray⟩] w fun e w' => e = .returned (.bool (plainU s)) ∧ Below w.heap.size w w' := by
  go_enter Try.func22, Try.ntmps22
  go_wp2_with fail
  refine (utf_runes s _).mono ?_
  rintro e w' ⟨rfl, rfl⟩
  go_wp2_with fail
  refine (utf_none s _ w.heap.size hs (Boxed.new w 9 (.string ⟨s.toArray⟩))).mono ?_
  rintro e w' ⟨rfl, hb⟩
  go_wp2
  go_ret
  exact ⟨rfl, ((Below.refl _ w).alloc (Nat.le_refl _) _).trans (hb.mono (by simp))⟩
end Go.Proofs.Ytjgflihokbmhiaa
