/- Parts of the proof of SessionRows: contracts of functions that it reaches, and plain lemmas. No condition of their own. -/
import Derived.Test.YtoinabapaeebfaaGreatDoorPk04
import Derived.Test.YtoinabapaeebfaaGreatDoorPk02
import Derived.IntWalk
import Derived.Laws.AppendOwnNone
import Derived.Maps.OwnOps
import Derived.Shelf.Strings.Runes
import Derived.Shelf.Strings.IndexAnyAll
import Derived.Test.YtoinabapaeebfaaGreatDoorProg
set_option linter.unusedSimpArgs false
set_option linter.unusedVariables false
set_option maxRecDepth 100000
set_option maxHeartbeats 8000000
namespace Go.Proofs.YtoinabapaeebfaaGreatDoor
open Go.RowKit Go.Shelf
section
attribute [local go_sem] Oper.semAt_some
def encU (x : Nat × Nat) : Array Value := #[.int .i64 x.1, .int .i32 x.2]
def RuneNx (s : List UInt8) (pre : List (Nat × Nat)) (x : Nat × Nat) (_W : World) : Prop :=
 ∃ s' p', ChainU s 0 pre s' p' /\ s' ≠ [] /\ ((badR s' p' = true /\ x = (p', 0)) \/ (badR s' p' = false /\ x = (p', (firstF s').1)))
def RuneS (s : List UInt8) (xs : List (Nat × Nat)) : Prop :=
 (∃ p', ChainU s 0 xs [] p') \/ ∃ pre s' p', ChainU s 0 pre s' p' /\ s' ≠ [] /\ badR s' p' = true /\ xs = pre ++ [(p', 0)]
theorem utf_runes (s : List UInt8) (w : World) :
  Calls Tryz.prog 217 #[.string ⟨s.toArray⟩] w fun e w' => e = .returned (.func (.func 238) #[] #[.pointer (some ⟨w.heap.size, 0, none⟩)]) /\ w.alloc (.cells #[.string ⟨s.toArray⟩] 9) = w' := by
 go_enter Tryz.func217, Tryz.ntmps217
 go_wp2
 go_ret
 exact ⟨rfl, rfl⟩
theorem utf_runes1 (s : List UInt8) (w0 w : World) (B : Nat) (hs : s.length <= 1000000) (hB0 : w0.heap.size <= B) (hw : Below w0.heap.size w0 w) (hb : Boxed w B 9 (.string ⟨s.toArray⟩)) :
  SeqG Tryz.prog 238 #[.pointer (some ⟨B, 0, none⟩)] encU (Keep w0.heap.size [B]) (Wrote []) (RuneNx s) (RuneS s) (fun _ => True) w := by
 intro lb J Jx W hW hlb hJ hJx hY h0
 refine callsIn_of_wp Tryz.func238 rfl trivial ?_ rfl
 simp only [Tryz.ntmps238, List.size_toArray, List.length_cons, List.length_nil, Nat.reduceAdd, Nat.reduceSub, Array.replicate_succ, Array.replicate_zero, List.push_toArray, List.append_toArray, List.nil_append, List.cons_append]
 have hsz : ByteArray.size ⟨s.toArray⟩ = s.length := by simp [ByteArray.size]
 gi_wp2
 gi_loopw [3, 4, 5] (fun at_ _ _ wr => ∃ (pre : List (Nat × Nat)) (s' : List UInt8) (p' : Nat), at_ = .int .i64 p' /\ p' <= s.length /\ Below w0.heap.size w0 wr /\ Boxed wr B 9 (.string ⟨s.toArray⟩) /\ ChainU s 0 pre s' p' /\ Hid (s' = s.drop p') /\ J pre wr)
  (fun at_ _ _ _ => s.length - (intOf at_).toNat)
 case atStart => exact ⟨[], s, 0, rfl, Nat.zero_le _, hw.trans (hW.mono hw.size), boxed_below hb hW, ⟨rfl, rfl⟩, rfl, h0⟩
 case round =>
  obtain ⟨pre, s', p', rfl, hp, hbel, hbx, hch, hs', hj⟩ := hrel
  have hc1 := hbx.cell
  rcases Nat.lt_or_ge p' s.length with hlt | hge
  ·have hcut := fun W => str_from s p' hp W
   have hl' : s'.length = s.length - p' := by rw [hs'.out]; simp
   have HC := hid (utf_first s' wr (by omega))
   rw [<- hs'.out] at hcut
   have hle := firstF_le s'
   have hbd : badR s' p' = (decide ((firstF s').2 = 0) || decide (65535 < p' + (firstF s').2)) := rfl
   have hne : s' ≠ [] := by intro h; rw [h] at hl'; simp at hl'; omega
   have HNX : ∀ x, (badR s' p' = true /\ x = (p', 0)) \/ (badR s' p' = false /\ x = (p', (firstF s').1)) -> RuneNx s pre x wr := fun x hx => ⟨s', p', hch, hne, hx⟩
   have HF := hid (show firstF s' = ((firstF s').1, (firstF s').2) from rfl)
   have HSN := hid (fun h => hch.snoc hne h)
   generalize hq1 : (firstF s').1 = r at *
   generalize hq2 : (firstF s').2 = n at *
   rcases (show n = 0 \/ (0 < n /\ 65535 < p' + n) \/ (0 < n /\ p' + n <= 65535) by omega) with rfl | ⟨hn, hn2⟩ | ⟨hn, hn2⟩
   ·skip
    gi_wp2_with fail
    refine inW HC.out ?_
    rintro e w2 ⟨rfl, hb2⟩
    have hbel2 := hbel.trans (hb2.mono hbel.size)
    have hbx2 := boxed_below hbx hb2
    have hj2 := hJ _ _ _ hj (Wrote.of_below hb2)
    obtain ⟨fn, tmps, assign, body, hy, hR⟩ := hY pre (p', 0) w2 hj2 (HNX _ (.inl ⟨by simp [hbd], rfl⟩))
    replace hy : (Instr.yield lb #[.int .i64 (p' : Int), .int .i32 0]).run Tryz.prog w2 = _ := hy
    have HR := hid hR;clear hR;gi_wp2_with fail
    refine ⟨rfl, HR.out.mono ?_⟩
    rintro e W3 (⟨rfl, hJ3, hk3⟩ | ⟨rfl, hJx3⟩)
    ·gi_wp2
     refine bodyPost_ret (results_none rfl _ _ _) rfl ?_
     exact ⟨⟨_, rfl⟩, .inl ⟨_, .inr ⟨pre, s', p', hch, hne, by simp [hbd], rfl⟩, hJ3⟩⟩
    ·gi_wp2
     refine bodyPost_ret (results_none rfl _ _ _) rfl ?_
     exact ⟨⟨_, rfl⟩, .inr ⟨_, trivial, hJx3⟩⟩
   ·have e1 : ((n : Int) == 0) = false := by simp; omega
    have hbt : badR s' p' = true := by rw [hbd]; simp; omega
    gi_wp2_with fail
    refine inW HC.out ?_
    rintro e w2 ⟨rfl, hb2⟩
    have hbel2 := hbel.trans (hb2.mono hbel.size)
    have hbx2 := boxed_below hbx hb2
    have hj2 := hJ _ _ _ hj (Wrote.of_below hb2)
    obtain ⟨fn, tmps, assign, body, hy, hR⟩ := hY pre (p', 0) w2 hj2 (HNX _ (.inl ⟨hbt, rfl⟩))
    replace hy : (Instr.yield lb #[.int .i64 (p' : Int), .int .i32 0]).run Tryz.prog w2 = _ := hy
    have HR := hid hR;clear hR;gi_wp2_with fail
    refine ⟨rfl, HR.out.mono ?_⟩
    rintro e W3 (⟨rfl, hJ3, hk3⟩ | ⟨rfl, hJx3⟩)
    ·gi_wp2
     refine bodyPost_ret (results_none rfl _ _ _) rfl ?_
     exact ⟨⟨_, rfl⟩, .inl ⟨_, .inr ⟨pre, s', p', hch, hne, hbt, rfl⟩, hJ3⟩⟩
    ·gi_wp2
     refine bodyPost_ret (results_none rfl _ _ _) rfl ?_
     exact ⟨⟨_, rfl⟩, .inr ⟨_, trivial, hJx3⟩⟩
   ·have e1 : ((n : Int) == 0) = false := by simp; omega
    have hbt : badR s' p' = false := by rw [hbd]; simp; omega
    gi_wp2_with fail
    refine inW HC.out ?_
    rintro e w2 ⟨rfl, hb2⟩
    have hbel2 := hbel.trans (hb2.mono hbel.size)
    have hbx2 := boxed_below hbx hb2
    have hj2 := hJ _ _ _ hj (Wrote.of_below hb2)
    obtain ⟨fn, tmps, assign, body, hy, hR⟩ := hY pre (p', r) w2 hj2 (HNX _ (.inr ⟨hbt, rfl⟩))
    replace hy : (Instr.yield lb #[.int .i64 (p' : Int), .int .i32 (r : Int)]).run Tryz.prog w2 = _ := hy
    have HR := hid hR;clear hR;gi_wp2_with fail
    refine ⟨rfl, HR.out.mono ?_⟩
    rintro e W3 (⟨rfl, hJ3, hk3⟩ | ⟨rfl, hJx3⟩)
    ·have hbx3 : Boxed W3 B 9 _ := (hk3.keep B (by simp)).trans hbx2
     have hbel3 := hbel2.trans hk3.bel
     gi_wp2
     go_roundw
     case rel =>
      refine ⟨pre ++ [(p', r)], s'.drop n, p' + n, by go_num, by omega, hbel3, hbx3, HSN.out hbt, ?_, hJ3⟩
      show s'.drop n = s.drop (p' + n)
      rw [hs'.out, List.drop_drop]
     case measure => simp [intOf]; omega
    ·gi_wp2
     refine bodyPost_ret (results_none rfl _ _ _) rfl ?_
     exact ⟨⟨_, rfl⟩, .inr ⟨_, trivial, hJx3⟩⟩
  ·obtain rfl : p' = s.length := by omega
   have hnil : s' = [] := by rw [hs'.out]; simp
   subst hnil;gi_wp2
   refine bodyPost_end (results_none rfl _ _ _) rfl ?_
   exact ⟨⟨_, rfl⟩, .inl ⟨_, .inl ⟨_, hch⟩, hj⟩⟩
end
section
attribute [local go_sem] Oper.semAt_some
def wrongU (s : List UInt8) : Int := match (runesL s 0).2 with
 | none => -1
 | some p => p
theorem firstF_ne (s : List UInt8) (p : Nat) (h : badR s p = false) : (firstF s).1 ≠ 0 /\ 0 < (firstF s).2 /\ p + (firstF s).2 <= 65535 /\ mayR (firstF s).1 = true /\ (firstF s).1 <= 1114111 /\ (firstF s).2 = lenR (firstF s).1 := by
 simp only [badR, Bool.or_eq_false_iff, decide_eq_false_iff_not] at h
 rcases firstF_spec s with h' | ⟨r, n, h', h1, h2, h3, _⟩
 ·rw [h'] at h; exact absurd rfl h.1
 ·rw [h'] at h ⊢
  refine ⟨h1, by omega, by omega, h2, ?_, h3⟩
  have := (mayR_iff r).1 h2
  dsimp only
  omega
theorem RuneNx.cases {s : List UInt8} {pre : List (Nat × Nat)} {x : Nat × Nat} {W : World} (h : RuneNx s pre x W) : (x.2 = 0 /\ (runesL s 0).2 = some x.1 /\ (runesL s 0).1 = pre.map (·.2)) \/ (x.2 ≠ 0 /\ x.2 <= 1114111) := by
 obtain ⟨s', p', hch, hne, ⟨hb, rfl⟩ | ⟨hb, rfl⟩⟩ := h
 ·refine .inl ⟨rfl, ?_⟩
  rw [hch.runes, runesL_bad s' p' hne hb]
  simp
 ·exact .inr ⟨(firstF_ne s' p' hb).1, (firstF_ne s' p' hb).2.2.2.2.1⟩
theorem RuneS.cases {s : List UInt8} {xs : List (Nat × Nat)} (h : RuneS s xs) : ((runesL s 0).2 = none /\ (runesL s 0).1 = xs.map (·.2)) \/ ∃ x ∈ xs, x.2 = 0 := by
 rcases h with ⟨p', hch⟩ | ⟨pre, s', p', hch, hne, hb, rfl⟩
 ·refine .inl ?_
  rw [hch.runes]
  simp [runesL_nil]
 ·exact .inr ⟨(p', 0), by simp, rfl⟩
def WrongI (w : World) (pre : List (Nat × Nat)) (W : World) : Prop := (∀ x ∈ pre, x.2 ≠ 0) /\ Boxed W w.heap.size 3 (.int .i64 0) /\ Below w.heap.size w W
def WrongX (s : List UInt8) (w : World) (c : Code) (_pre : List (Nat × Nat)) (W : World) : Prop := c = .ret /\ Boxed W w.heap.size 3 (.int .i64 (wrongU s)) /\ Below w.heap.size w W
theorem utf_Wrong (s : List UInt8) (w : World) (hs : s.length <= 1000000) :
  Calls Tryz.prog 203 #[.string ⟨s.toArray⟩] w fun e w' => e = .returned (.int .i64 (wrongU s)) /\ Below w.heap.size w w' := by
 refine calls_marks Tryz.func203 rfl ?_
 simp only [Tryz.ntmps203, List.size_toArray, List.length_cons, List.length_nil, Nat.reduceAdd, Nat.reduceSub, Array.replicate_succ, Array.replicate_zero, List.push_toArray, List.append_toArray, List.nil_append, List.cons_append]
 go_wp2_with fail
 refine (utf_runes s _).mono ?_
 rintro e w' ⟨rfl, rfl⟩
 go_wp2_with fail
 generalize hW0 : ((w.alloc (Obj.cells #[Value.int IntKind.i64 0] 3)).alloc (Obj.cells #[Value.string ⟨s.toArray⟩] 9)) = W0
 have hsz : W0.heap.size = w.heap.size + 2 := by rw [<- hW0]; simp
 have hb0 : Below w.heap.size w W0 := by
  rw [<- hW0]
  exact ((Below.refl _ w).alloc (Nat.le_refl _) _).alloc (by simp) _
 have hbx : Boxed W0 w.heap.size 3 (.int .i64 0) /\ Boxed W0 (w.heap.size + 1) 9 (.string ⟨s.toArray⟩) := by
  have e1 := Boxed.new w 3 (.int .i64 0)
  have e2 := Boxed.new (w.alloc (Obj.cells #[Value.int IntKind.i64 0] 3)) 9 (.string ⟨s.toArray⟩)
  simp only [World.size_alloc] at e2
  rw [<- hW0]
  exact ⟨e1.alloc _, e2⟩
 obtain ⟨b1, b2⟩ := hbx
 have HW0 := hid hW0; clear hW0
 refine wp_range (α := Nat × Nat) (gf := 238) (lb := #[.pointer (some ⟨w.heap.size + 1, 0, none⟩)]) rfl (enters_of Tryz.func238 (by kernel_rfl) rfl)
  (n₀ := w.heap.size) (L := [w.heap.size + 1]) (M := []) (utf_runes1 s w W0 (w.heap.size + 1) hs (by omega) hb0 b2)
  (by omega) (by simp; omega) (by simp) (fun _ => rfl) (WrongI w) (WrongX s w) ?hI ?hIx ?h0
  (fun pre x a' W => RuneNx s pre x W /\ a' = { tmps := #[.string ⟨s.toArray⟩, undef, .pointer (some ⟨w.heap.size, 0, none⟩), .int .i64 x.1, .int .i32 x.2, .string ⟨s.toArray⟩, .func (.func 238) #[] #[.pointer (some ⟨w.heap.size + 1, 0, none⟩)], .int .i64 x.1, .int .i32 x.2, undef, undef, undef], defers := [] }) ?hAx ?assign ?body ?done ?stop
 case hI =>
  rintro s A A' ⟨g1, g2, g3⟩ hw
  rw [hsz] at hw
  exact ⟨g1, hw.boxed (by simp <;> omega) g2, g3.trans (hw.below g3.size (by simp <;> omega))⟩
 case hIx =>
  rintro c s A A' ⟨rfl, g1, g2⟩ hw
  rw [hsz] at hw
  exact ⟨rfl, hw.boxed (by simp <;> omega) g1, g2.trans (hw.below g2.size (by simp <;> omega))⟩
 case h0 => exact ⟨by simp, b1, hb0⟩
 case hAx =>
  rintro pre x a' A A' ⟨hx, rfl⟩ hl hw
  exact ⟨hx, rfl⟩
 case assign =>
  intro pre x W K hl hi hx hK
  simp only [encU]
  gi_wp2
  refine hK _ _ (Below.refl _ _) hi ⟨hx, rfl⟩
 case body =>
  rintro pre x a' W hl ⟨g1, g2, g3⟩ ⟨hx, rfl⟩
  have c1 := g2.cell
  have f1 := g2.frozen
  rcases hx.cases with ⟨h1, h2, _⟩ | ⟨h1, h2⟩
  ·have hwr : wrongU s = x.1 := by unfold wrongU; rw [h2]
   have HW := hid hwr;obtain ⟨x1, x2⟩ := x
   dsimp only at h1
   subst h1;clear h2 hwr;gi_wp2
   refine ⟨Keep.setCell _ _ (by simp) (by simp <;> omega) _, rfl, ?_, g3.setCell (p := ⟨w.heap.size, 0, none⟩) (by simp) _⟩
   rw [HW.out]
   exact g2.set _
  ·have e1 : ((x.2 : Int) == 0) = false := by simp; omega
   gi_wp2
   exact ⟨Keep.refl _ _ _, fun y hy => by rcases List.mem_append.1 hy with hy | hy; exact g1 y hy; rw [List.mem_singleton.1 hy]; exact h1, g2, g3⟩
 case done =>
  rintro xs W hS ⟨g1, g2, g3⟩ hl hD
  rw [hsz] at hl
  have hwr : wrongU s = -1 := by
   rcases hS.cases with ⟨h, _⟩ | ⟨x, hx, h⟩
   ·unfold wrongU; rw [h]
   ·exact absurd h (g1 x hx)
  have HW := hid hwr;clear hwr hS;have c1 := g2.cell
  have f1 := g2.frozen
  go_wp2
  have d1 : Boxed (W.setCell ⟨w.heap.size, 0, none⟩ (.int .i64 (-1))) w.heap.size 3 (.int .i64 (-1)) := g2.set _
  refine ret_mark (v := .int .i64 (-1)) ?_ (fun w' hw' => ?_)
  ·exact (Below.heap_setCell _ _ _ _ (by simp; omega)).trans hD
  ·have wp : Wrote [W0.heap.size] (W.setCell ⟨w.heap.size, 0, none⟩ (.int .i64 (-1))) w' := by rw [hw']; exact Wrote.putObj _ _ (by simp) _
   have d4 := (wp.boxed (by simp; omega) d1).cell
   have hb : Below w.heap.size w (W.setCell ⟨w.heap.size, 0, none⟩ (.int .i64 (-1))) := g3.setCell (p := ⟨w.heap.size, 0, none⟩) (by simp) _
   exact ⟨by simp [results, Tryz.results203, go_sem, d4], by first | rfl | rw [HW.out], hb.trans (wp.below hb.size (by simp; omega))⟩
 case stop =>
  rintro c pre W _ ⟨rfl, g1, g2⟩ hl hD
  rw [hsz] at hl
  have c1 := g1.cell
  have f1 := g1.frozen
  go_wp2
  have d1 : Boxed W w.heap.size 3 (.int .i64 (wrongU s)) := g1
  refine ret_mark (v := .int .i64 (wrongU s)) ?_ (fun w' hw' => ?_)
  ·exact hD
  ·have wp : Wrote [W0.heap.size] W w' := by rw [hw']; exact Wrote.putObj _ _ (by simp) _
   have d4 := (wp.boxed (by simp; omega) d1).cell
   have hb : Below w.heap.size w W := g2
   exact ⟨by simp [results, Tryz.results203, go_sem, d4], by first | rfl | rw [HW.out], hb.trans (wp.below hb.size (by simp; omega))⟩
def checkU (s : List UInt8) : Int := if 0 <= wrongU s then 220 else 0
theorem wrongU_lo (s : List UInt8) : -1 <= wrongU s := by unfold wrongU; split <;> omega
theorem utf_Check (s : List UInt8) (w : World) (hs : s.length <= 1000000) :
  Calls Tryz.prog 181 #[.string ⟨s.toArray⟩] w fun e w' => e = .returned (.int .i64 (checkU s)) /\ Below w.heap.size w w' := by
 unfold checkU
 by_cases h : 0 <= wrongU s
 ·rw [if_pos h]
  go_enter Tryz.func181, Tryz.ntmps181
  go_wp2_with (go_at_call 203; refine (utf_Wrong s _ hs).mono ?_; rintro e w1 ⟨rfl, hb⟩)
  go_ret
  exact ⟨rfl, hb⟩
 ·rw [if_neg h]
  go_enter Tryz.func181, Tryz.ntmps181
  go_wp2_with (go_at_call 203; refine (utf_Wrong s _ hs).mono ?_; rintro e w1 ⟨rfl, hb⟩)
  go_ret
  exact ⟨rfl, hb⟩
end
section
theorem appendIn_one {F : Fence} {k : Nat} {P : Program} {w : World} {ops : Array Oper} {rest : List Oper} {o : Oper} {a : Act} {Q : Exit -> Act -> World -> Prop} {t e : TypeId} {z : Value} {bytes : Nat} (hgd : o.guard = none) (s x : Operand)
  (ho : o.op = .call { callee := .builtin .append, args := #[s, x], argTypes := #[t, t] }) (E : ElemT P t e z 1 bytes)
  (base : Nat) (v : Value) (n : Nat) (xs : List Value) (hs : a.eval s = v) (hown : w.ownsRow base e 1 v n xs) (u : Value) (hu : u.oneCell' = true) {T : TypeId}
  (hx : a.eval x = .slice (some ⟨w.heap.size, 0, none⟩) 1 1) (h63 : n < 140737488355328) (hbytes : (n + 1) * bytes <= 140737488355328) (hbase : base <= w.heap.size)
  (h : ∀ v' w', w'.ownsRow base e 1 v' (n + 1) (xs ++ [u]) -> w.grownBy w' v.ownBlock -> wpListIn F k P ops Q rest (a.put o.dst v') w') : wpListIn F k P ops Q (o :: rest) a (w.alloc (.cells #[u] T)) := by
 obtain ⟨i, hi, hz0, hz1, hz2⟩ := info_parts E.info
 refine wpListIn_append_own _ hgd s x t ho base e i z 1 bytes E.ht hi hz0 hz1 hz2 E.hzs (by decide) v n xs hs (hown.alloc _) ⟨w.heap.size, 0, none⟩ 1 1 [u] hx rfl ?_ ?_ ?_ hbytes ?_ ?_
 ·intro j u' hj
  match j, hj with
  | 0, hj => simp at hj; subst hj; exact cell_one_new _ _ _ 0 _ (by simp)
 ·intro u' h'; simp at h'; subst h'; exact hu
 ·unfold maxLen; omega
 ·simp; omega
 ·intro v' w' h1 h2 _
  exact h v' w' h1 (grownBy_trans (World.grownBy_alloc w _ none) h2)
end
section
section
variable {P : Program} {ops : Array Oper}
def waitsT (md : Region.Mode) (ops : Array Oper) (i : Nat) : Nat -> Nat -> Bool
 | 0, _ => false
 | f + 1, k => match ops[k]? with
  | none => true
  | some o => o.after.any fun e => Region.binds md e && (e.on == i || ((ops[e.on]?).isSome && waitsT md ops i f e.on))
theorem listed_get {md : Region.Mode} {listed : Array Bool} (hc : ClosedL md ops listed) (k : Nat) (h : ops[k]? = none) : listed.getD k false = false := by
 have h1 := Array.getElem?_eq_none_iff.1 h
 have h2 : listed[k]? = none := Array.getElem?_eq_none_iff.2 (by rw [hc.1]; exact h1)
 rw [Array.getD_eq_getD_getElem?, h2]
 rfl
theorem waitsT_spec {md : Region.Mode} {listed : Array Bool} {i : Nat} (hc : ClosedL md ops listed) (hn : listed.getD i true = false) : ∀ (f k : Nat), waitsT md ops i f k = true -> listed.getD k false = false
 | 0, _, h => by cases h
 | f + 1, k, h => by
  unfold waitsT at h
  cases hk : ops[k]? with
  | none => exact listed_get hc k hk
  | some o =>
   rw [hk] at h
   obtain ⟨e, he, hb⟩ := Array.any_eq_true'.1 h
   simp only [Bool.and_eq_true, Bool.or_eq_true, beq_iff_eq] at hb
   cases hl : listed.getD k false with
   | false => rfl
   | true =>
    exfalso
    have h1 := hc.2 k o hk hl e he hb.1
    rcases hb.2 with h2 | ⟨-, h2⟩
    ·rw [h2] at h1
     rcases Nat.lt_or_ge i listed.size with h' | h'
     ·simp [h'] at hn h1; rw [hn] at h1; cases h1
     ·simp [Array.getElem?_eq_none h'] at h1
    ·have h3 := waitsT_spec hc hn f e.on h2
     rw [h1] at h3
     cases h3
theorem upR.getT {md : Region.Mode} {facts : List Fact} {i : Nat} {w : World} (h : upR md ops facts i w) (k : Nat) (p : World -> Prop) (hm : (k, p) ∈ facts) (hw : waitsT md ops i (ops.size + 1) k = true) : p w := by
 obtain ⟨listed, h1, h2, h3⟩ := h
 exact h3 _ hm (waitsT_spec h1 h2 _ _ hw)
variable {KQ : Act -> World -> Prop} {facts : List Fact} {taken : List Nat} {a : Act} {w : World}
theorem loadT (i : Nat) {oi : Oper} (hi : ops[i]? = some oi) (hB : takeB ops (facts.map (·.1)) taken i = true) (hw : Region.wanted oi (yielded ops a.tmps) = true) {t : TypeId} {x : Operand} (hop : oi.op = .load t x) {u : Value} (hx : a.eval x = u)
  (n : Nat) {k : Nat} {p : World -> Prop} (hf : facts[n]? = some (k, p)) (hk : waitsT .any ops i (ops.size + 1) k = true) (v : Value) (hr : ∀ w', p w' -> (Instr.loadAt t u).run P w' = .ok v w')
  (h : atR P ops KQ facts (i :: taken) (a.put oi.dst v) w) : atR P ops KQ facts taken a w := by
 refine readyR i hi hB v (.inl ⟨hw, fun w' hu => ?_⟩) h
 have h1 := hr w' (hu.getT k p (List.mem_of_getElem? hf) hk)
 simp only [execOp, hop, hx, Sem.run_bind, h1, Result.andThen_ok, Sem.run_pure]
end
end
section
open Go.RowKit Go.Shelf Go.MapKept Go.ChangeMaps
theorem findNow_none (q : IntKind) (n : Int) : ∀ (es : List MapEntry) (i : Nat), (∀ x : MapEntry, x ∈ es -> ∃ a, x.key = .int q a /\ a ≠ n) -> Instr.findNow (.int q) (.int q n) es i = some none := by
 intro es
 induction es with
 | nil => intro i _; rfl
 | cons e es ih =>
  intro i h
  obtain ⟨a, ha, hn⟩ := h e (by simp)
  have hb : (n == a) = false := by simp; omega
  simp [Instr.findNow, ha, Instr.sameNow, hb]
  exact ih _ (fun x hx => h x (by simp [hx]))
def putE (es : Array MapEntry) (key val : Value) (clock : Nat) : Array MapEntry := es.push { key, val, born := clock }
theorem run_mapUpdate_new {P : Program} (t k e : TypeId) (q : IntKind) (ht : P.underlying t = some (.map k e)) (hk : P.underlying k = some (.int q)) (w : World) (b : Nat) (es : Array MapEntry) (clock : Nat)
  (hb : w.heap[b]? = some (.map es clock)) (n : Int) (hn : ∀ x : MapEntry, x ∈ es.toList -> ∃ a, x.key = .int q a /\ a ≠ n) (v : Value) :
  (Instr.mapUpdate t (.map (some b)) (.int q n) v).run P w = .ok () (setBlock w b (.map (putE es (.int q n) v clock) (clock + 1))) := by
 have h1 := run_findKey (w := w) hk (findNow_none q n es.toList 0 hn)
 have h2 := run_checkKey (w := w) hk (k := .int q n) (by simp [IsKey]) false 9999
 simp [Instr.mapUpdate, run_underlying ht, MapKept.run_getObj_map hb, h2, h1, MapKept.run_setObj_map _ hb, Result.andThen, setBlock, putE]
theorem wpList_insert_new {P : Program} (w : World) {ops : Array Oper} {rest : List Oper} {o : Oper} {a : Act} {Q : Exit -> Act -> World -> Prop}
  (hg : o.guard = none) (m x v : Operand) (t : TypeId) (hop : o.op = Op.insert t m x v)
  (k e : TypeId) (q : IntKind) (ht : P.underlying t = some (.map k e)) (hk : P.underlying k = some (.int q)) (b : Nat) (es : Array MapEntry) (clock : Nat)
  (hm : a.eval m = .map (some b)) (hb : w.heap[b]? = some (.map es clock)) (n : Int) (val : Value) (hx : a.eval x = .int q n) (hv : a.eval v = val)
  (hn : ∀ x : MapEntry, x ∈ es.toList -> ∃ a, x.key = .int q a /\ a ≠ n)
  (hK : ∀ w', w'.heap[b]? = some (.map (putE es (.int q n) val clock) (clock + 1)) -> w.grownBy w' (some b) -> wpList P ops Q rest (a.put o.dst undef) w') :
  wpList P ops Q (o :: rest) a w := by
 refine wpList_plain hg fun K' hK' => ?_
 have hrun := run_mapUpdate_new t k e q ht hk w b es clock hb n hn val
 unfold Oper.wp
 simp [execOp, hop, hm, hx, hv, hrun, Result.andThen]
 refine hK' _ _ (hK _ ?_ ?_)
 ·have : b < w.heap.size := by rcases Nat.lt_or_ge b w.heap.size with h | h; exact h; rw [Array.getElem?_eq_none h] at hb; cases hb
  simp [setBlock, this]
 ·exact World.mapTurned.grown ⟨es, clock, _, _, hb, rfl⟩
theorem run_lookup_at {P : Program} (t k e : TypeId) (q : IntKind) (ht : P.underlying t = some (.map k e)) (hk : P.underlying k = some (.int q)) (w : World) (b : Nat) (es : Array MapEntry) (clock : Nat)
  (hb : w.heap[b]? = some (.map es clock)) (n : Int) (v : Value) (j : Nat) (hn : Instr.findNow (.int q) (.int q n) es.toList 0 = some (some (j, v))) (c : Bool) :
  (Instr.lookup t (.map (some b)) (.int q n) c).run P w = .ok (if c then .tuple #[v, .bool true] else v) w := by
 have h1 := run_findKey (w := w) hk hn
 have h2 := fun z => run_checkKey (w := w) hk (k := .int q n) (by simp [IsKey]) z 9999
 simp [Instr.lookup, run_underlying ht, MapKept.run_getObj_map hb, h2, h1, Result.andThen]
theorem run_lookup_not {P : Program} (t k e : TypeId) (q : IntKind) (ht : P.underlying t = some (.map k e)) (hk : P.underlying k = some (.int q)) (w : World) (b : Nat) (es : Array MapEntry) (clock : Nat) (z : Value)
  (hz : (zeroValue e).run P w = .ok z w)
  (hb : w.heap[b]? = some (.map es clock)) (n : Int) (hn : ∀ x : MapEntry, x ∈ es.toList -> ∃ a, x.key = .int q a /\ a ≠ n) (c : Bool) :
  (Instr.lookup t (.map (some b)) (.int q n) c).run P w = .ok (if c then .tuple #[z, .bool false] else z) w := by
 have h1 := run_findKey (w := w) hk (findNow_none q n es.toList 0 hn)
 have h2 := fun z => run_checkKey (w := w) hk (k := .int q n) (by simp [IsKey]) z 9999
 simp [Instr.lookup, run_underlying ht, MapKept.run_getObj_map hb, h2, h1, hz, Result.andThen]
end
section
structure RowV where
 kind : Int
 client : List UInt8
 seq : Int
 id : Int
 topic : List UInt8
 body : List UInt8
 qos : Int
 retain : Bool
 stage : Int
def RowV.vals (r : RowV) : Array Value := #[.int .i64 r.kind, .string ⟨r.client.toArray⟩, .int .i64 r.seq, .int .i64 r.id, .string ⟨r.topic.toArray⟩, .string ⟨r.body.toArray⟩, .int .i64 r.qos, .bool r.retain, .int .i64 r.stage]
theorem rec_within (n a b : Int) (w : World) :
  Calls Tryz.prog 151 #[.int .i64 n, .int .i64 a, .int .i64 b] w fun e w' => e = .returned (.bool (decide (a <= n) && decide (n <= b))) /\ w = w' := by
 by_cases h : a <= n
 ·go_enter Tryz.func151, Tryz.ntmps151
  go_wp2
  go_ret
  simp [h]
 ·have d : decide (a <= n) = false := decide_eq_false h
  go_enter Tryz.func151, Tryz.ntmps151
  go_wp2
  go_ret
  simp [d]
def clientR (s : List UInt8) : Bool := !s.isEmpty && decide (s.length <= 23) && decide (wrongU s = -1)
theorem rec_client (s : List UInt8) (w : World) (hs : s.length <= 9223372036854775807) :
  Calls Tryz.prog 150 #[.string ⟨s.toArray⟩] w fun e w' => e = .returned (.bool (clientR s)) /\ Below w.heap.size w w' := by
 have hsz : ByteArray.size ⟨s.toArray⟩ = s.length := by simp [ByteArray.size]
 have fin : ∀ b : Bool, clientR s = b -> Ending.returned (.bool b) = .returned (.bool (clientR s)) := fun b h => by rw [h]
 have HF := hid fin;clear fin;by_cases h0 : s = []
 ·subst h0
  go_enter Tryz.func150, Tryz.ntmps150
  go_wp2
  go_ret
  exact ⟨HF.out _ rfl, Below.refl _ _⟩
 have e0 : ((⟨s.toArray⟩ : ByteArray).toList == (⟨#[]⟩ : ByteArray).toList) = false := by
  rw [ByteArray.toList_eq, ByteArray.toList_eq]
  simpa using h0
 have e1 : s.isEmpty = false := by cases s <;> simp at h0 ⊢
 have HS0 := hid h0;clear h0;by_cases h1 : s.length <= 23
 ·have CC := hid (utf_Check s w (by omega))
  by_cases hw : wrongU s = -1
  ·rw [show checkU s = 0 by unfold checkU; rw [hw]; rfl] at CC
   have HB := hid (show clientR s = true by unfold clientR; rw [e1, hw]; simp [h1])
   clear hw;go_enter Tryz.func150, Tryz.ntmps150
   go_wp2_with (go_at_call 181; refine CC.out.mono ?_; rintro e w1 ⟨rfl, hb⟩)
   go_ret
   exact ⟨HF.out _ HB.out, hb⟩
  ·rw [show checkU s = 220 by unfold checkU; rw [if_pos (by have := wrongU_lo s; omega)]] at CC
   have HB := hid (show clientR s = false by unfold clientR; rw [e1]; simp [hw])
   clear hw;go_enter Tryz.func150, Tryz.ntmps150
   go_wp2_with (go_at_call 181; refine CC.out.mono ?_; rintro e w1 ⟨rfl, hb⟩)
   go_ret
   exact ⟨HF.out _ HB.out, hb⟩
 ·have d1 : decide ((s.length : Int) <= 23) = false := decide_eq_false (by omega)
  have HB := hid (show clientR s = false by unfold clientR; rw [e1]; simp [h1])
  clear h1;go_enter Tryz.func150, Tryz.ntmps150
  go_wp2
  go_ret
  exact ⟨HF.out _ HB.out, Below.refl _ _⟩
def kindV (s : List UInt8) (a b c : Nat) (p : Bool) : Value := .agg #[.string ⟨s.toArray⟩, .func (.func a) #[] #[], .func (.func b) #[] #[], .func (.func c) #[] #[], .bool p]
def kindsE : Array MapEntry := #[
 { key := .int .i64 1, val := kindV [115, 101, 115, 115, 105, 111, 110] 149 152 153 false, born := 0 },
 { key := .int .i64 2, val := kindV [115, 117, 98] 155 156 157 true, born := 1 },
 { key := .int .i64 3, val := kindV [111, 117, 116] 159 160 161 false, born := 2 },
 { key := .int .i64 4, val := kindV [105, 110] 163 164 165 false, born := 3 },
 { key := .int .i64 5, val := kindV [114, 101, 116, 97, 105, 110] 166 167 168 true, born := 4 }]
theorem rec_kinds (w : World) :
  Calls Tryz.prog 108 #[] w fun e w' => e = .returned (.map (some w.heap.size)) /\ w'.heap[w.heap.size]? = some (.map kindsE 5) /\ Below w.heap.size w w' := by
 have hmm := @run_makeMap Tryz.prog
 have hb0 : (w.alloc (.map #[] 0)).heap[w.heap.size]? = some (.map #[] 0) := by show (w.heap.push _)[w.heap.size]? = _; simp
 have B0 : Below w.heap.size w (w.alloc (.map #[] 0)) := (Below.refl _ w).alloc (Nat.le_refl _) _
 go_enter Tryz.func108, Tryz.ntmps108
 go_wp2_with (refine wpList_insert_new _ rfl _ _ _ 189 rfl 30 187 .i64 Tryz.underlying189 Tryz.underlying30 _ _ _ rfl (by with_reducible assumption) _ _ rfl rfl (by simp [putE]) ?_; intro w1 hb1 hg1; replace B0 := B0.grown hg1 B0.size (fun k hk => by cases hk; exact Nat.le_refl _); clear hg1)
 go_ret
 refine ⟨rfl, ?_, B0⟩
 rw [hb1]
 rfl
end
section
open Go.Shelf
def Tryz.lays152_ren : Go.Shelf.Ren := ⟨fun | 152 => 204 | 137 => 218 | 119 => 219 | 224 => 220 | 225 => 221 | 217 => 240 | 266 => 254 | n => n, fun | 9 => 9 | 21 => 21 | 3 => 3 | 4 => 4 | 5 => 5 | 0 => 0 | 46 => 194 | n => n, fun | n => n⟩
theorem Tryz.lays152 : Go.Proofs.Lays.n152 Tryz.prog Tryz.lays152_ren := {
 mixed := by kernel_rfl
 f119 := Tryz.func219.trans (congrArg some (by kernel_rfl))
 f137 := Tryz.func218.trans (congrArg some (by kernel_rfl))
 f152 := Tryz.func204.trans (congrArg some (by kernel_rfl))
 f217 := Tryz.func240.trans (congrArg some (by kernel_rfl))
 f224 := Tryz.func220.trans (congrArg some (by kernel_rfl))
 f225 := Tryz.func221.trans (congrArg some (by kernel_rfl))
 f266 := Tryz.func254.trans (congrArg some (by kernel_rfl))
 t0 := Tryz.underlying0
 a0 := Tryz.isAgg0
 z0 := Tryz.sizeOf0
 v0 := Tryz.zeroValue0
 t3 := Tryz.underlying3
 a3 := Tryz.isAgg3
 z3 := Tryz.sizeOf3
 v3 := Tryz.zeroValue3
 t4 := Tryz.underlying4
 a4 := Tryz.isAgg4
 z4 := Tryz.sizeOf4
 v4 := Tryz.zeroValue4
 t5 := Tryz.underlying5
 a5 := Tryz.isAgg5
 z5 := Tryz.sizeOf5
 v5 := Tryz.zeroValue5
 t9 := Tryz.underlying9
 a9 := Tryz.isAgg9
 z9 := Tryz.sizeOf9
 v9 := Tryz.zeroValue9
 t21 := Tryz.underlying21
 a21 := Tryz.isAgg21
 z21 := Tryz.sizeOf21
 v21 := Tryz.zeroValue21
 t46 := Tryz.underlying194
 a46 := Tryz.isAgg194
 z46 := Tryz.sizeOf194
 v46 := Tryz.zeroValue194 }
open Go.RowKit Go.Lib in
theorem Tryz.strings_IndexRune_ascii (s : ByteArray) (r : Int) (w : World) (h0 : 0 <= r) (h1 : r < 128) :
  Calls Tryz.prog 204 #[.string s, .int .i32 r] w fun e w' => e = .returned (.int .i64 (Lib.indexByte s.data.toList r.toNat.toUInt8)) /\ w' = w := Any.strings_IndexRune_ascii Tryz.lays152 s r w h0 h1
def Tryz.lays153_ren : Go.Shelf.Ren := ⟨fun | 153 => 182 | 152 => 204 | 226 => 205 | 227 => 206 | 228 => 207 | 137 => 218 | 119 => 219 | 224 => 220 | 225 => 221 | 217 => 240 | 266 => 254 | n => n, fun | 9 => 9 | 3 => 3 | 4 => 4 | 5 => 5 | 21 => 21 | 117 => 279 | 116 => 278 | 0 => 0 | 46 => 194 | 124 => 301 | n => n, fun | n => n⟩
theorem Tryz.lays153 : Go.Proofs.Lays.n153 Tryz.prog Tryz.lays153_ren := {
 mixed := by kernel_rfl
 f119 := Tryz.func219.trans (congrArg some (by kernel_rfl))
 f137 := Tryz.func218.trans (congrArg some (by kernel_rfl))
 f152 := Tryz.func204.trans (congrArg some (by kernel_rfl))
 f153 := Tryz.func182.trans (congrArg some (by kernel_rfl))
 f217 := Tryz.func240.trans (congrArg some (by kernel_rfl))
 f224 := Tryz.func220.trans (congrArg some (by kernel_rfl))
 f225 := Tryz.func221.trans (congrArg some (by kernel_rfl))
 f226 := Tryz.func205.trans (congrArg some (by kernel_rfl))
 f227 := Tryz.func206.trans (congrArg some (by kernel_rfl))
 f228 := Tryz.func207.trans (congrArg some (by kernel_rfl))
 f266 := Tryz.func254.trans (congrArg some (by kernel_rfl))
 t0 := Tryz.underlying0
 a0 := Tryz.isAgg0
 z0 := Tryz.sizeOf0
 v0 := Tryz.zeroValue0
 t3 := Tryz.underlying3
 a3 := Tryz.isAgg3
 z3 := Tryz.sizeOf3
 v3 := Tryz.zeroValue3
 t4 := Tryz.underlying4
 a4 := Tryz.isAgg4
 z4 := Tryz.sizeOf4
 v4 := Tryz.zeroValue4
 t5 := Tryz.underlying5
 a5 := Tryz.isAgg5
 z5 := Tryz.sizeOf5
 v5 := Tryz.zeroValue5
 t9 := Tryz.underlying9
 a9 := Tryz.isAgg9
 z9 := Tryz.sizeOf9
 v9 := Tryz.zeroValue9
 t21 := Tryz.underlying21
 a21 := Tryz.isAgg21
 z21 := Tryz.sizeOf21
 v21 := Tryz.zeroValue21
 t46 := Tryz.underlying194
 a46 := Tryz.isAgg194
 z46 := Tryz.sizeOf194
 v46 := Tryz.zeroValue194
 t116 := Tryz.underlying278
 a116 := Tryz.isAgg278
 z116 := Tryz.sizeOf278
 t117 := Tryz.underlying279
 a117 := Tryz.isAgg279
 z117 := Tryz.sizeOf279
 v117 := Tryz.zeroValue279
 t124 := Tryz.underlying301
 a124 := Tryz.isAgg301
 z124 := Tryz.sizeOf301
 v124 := Tryz.zeroValue301 }
open Go.RowKit Go.Lib in
theorem Tryz.strings_IndexAny_long (hv116 : ∀ w, (zeroValue 278).run Tryz.prog w = .ok (.agg (Array.replicate 256 (.bool false))) w) (s chars : ByteArray) (w : World) (h2 : 2 <= chars.size) (h8 : 8 < s.size) (hs : s.size < 4294967281) (hcs : chars.size < 4294967281) (hascii : ∀ (j : Nat) b, chars.data.toList[j]? = some b -> b.toNat < 128) :
  Calls Tryz.prog 182 #[.string s, .string chars] w fun e w' => e = .returned (.int .i64 (Lib.indexAny s.data.toList chars.data.toList)) /\ w' = ((w.alloc (.cells (Lib.setCells chars.data.toList) 278)).alloc (.cells (Lib.setCells chars.data.toList) 278)) := Any.strings_IndexAny_long Tryz.lays153 hv116 (by kernel_rfl) s chars w h2 h8 hs hcs hascii
end
end Go.Proofs.YtoinabapaeebfaaGreatDoor
