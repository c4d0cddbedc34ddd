/- Parts of the proof of ScriptCuts: contracts of functions that it reaches, and plain lemmas. No condition of their own. -/
import Derived.Test.YtkghejaimhoboaaGreatDoorPk43
import Derived.Test.YtkghejaimhoboaaGreatDoorPk17
import Derived.Test.YtkghejaimhoboaaGreatDoorPk40
import Derived.Test.YtkghejaimhoboaaGreatDoorPk33
set_option linter.unusedSimpArgs false
set_option linter.unusedVariables false
set_option maxRecDepth 100000
set_option maxHeartbeats 8000000
namespace Go.Proofs.YtkghejaimhoboaaGreatDoor
open Go.RowKit Go.Shelf
section
theorem rightP_small {p : Pk} (h : rightP p) : PkS p := by
 obtain ⟨hm, ha⟩ := h
 unfold mayP at hm
 unfold aloneP at ha
 by_cases k1 : p.kind = 1
 ·rw [if_pos k1] at hm ha
  obtain ⟨a1, a2, a3, a4, a5⟩ := mayC_parts hm
  have h1 := saidN_len a1
  have t1 : p.will.topic.length <= 2000000 := by
   rcases a3 with ⟨-, e⟩ | ⟨-, e, -⟩
   ·rw [e]; decide
   ·have := nameR_len e; omega
  have t2 : p.will.body.length <= 2000000 := by
   rcases a3 with ⟨-, e⟩ | ⟨-, -, e, -⟩
   ·rw [e]; decide
   ·omega
  have t3 : p.user.length <= 2000000 := by
   rcases a4 with ⟨-, e⟩ | ⟨-, e⟩
   ·have := saidN_len e; omega
   ·rw [e]; decide
  have t4 : p.pass.length <= 2000000 := by
   rcases a5 with ⟨-, e⟩ | ⟨-, e⟩
   ·omega
   ·rw [e]; decide
  have e1 : p.topic = [] := (congrArg Pk.topic ha).symm
  have e2 : p.body = [] := (congrArg Pk.body ha).symm
  have e3 : p.wants = [] := (congrArg Pk.wants ha).symm
  have e4 : p.filters = [] := (congrArg Pk.filters ha).symm
  exact ⟨by rw [e1]; simp, by rw [e2]; simp, by omega, t1, t2, t3, t4, by rw [e3]; simp, by rw [e4]; simp⟩
 rw [if_neg k1] at hm ha
 have z : ∀ q : Pk, q = p -> q.client = [] -> q.will = noWill -> q.user = [] -> q.pass = [] -> p.client.length <= 2000000 /\ p.will.topic.length <= 2000000 /\ p.will.body.length <= 2000000 /\ p.user.length <= 2000000 /\ p.pass.length <= 2000000 := by
  rintro q rfl a b c d
  rw [a, b, c, d]
  decide
 have y : ∀ q : Pk, q = p -> q.topic = [] -> q.body = [] -> p.topic.length <= 2000000 /\ p.body.length <= 2000000 := by
  rintro q rfl a b
  rw [a, b]
  decide
 have x : ∀ q : Pk, q = p -> q.wants = [] -> ∀ x ∈ p.wants, x.filter.length <= 2000000 := by
  rintro q rfl a
  rw [a]
  simp
 have v : ∀ q : Pk, q = p -> q.filters = [] -> ∀ x ∈ p.filters, x.length <= 2000000 := by
  rintro q rfl a
  rw [a]
  simp
 by_cases k2 : p.kind = 2
 ·rw [if_pos k2] at ha
  obtain ⟨b1, b2, b3, b4, b5⟩ := z _ ha rfl rfl rfl rfl
  obtain ⟨c1, c2⟩ := y _ ha rfl rfl
  exact ⟨c1, c2, b1, b2, b3, b4, b5, x _ ha rfl, v _ ha rfl⟩
 rw [if_neg k2] at hm ha
 by_cases k3 : p.kind = 3
 ·rw [if_pos k3] at hm ha
  obtain ⟨b1, b2, b3, b4, b5⟩ := z _ ha rfl rfl rfl rfl
  unfold mayPub at hm
  rw [Bool.and_eq_true, Bool.and_eq_true, Bool.and_eq_true] at hm
  have := nameR_len hm.1.1.1
  have := of_decide_eq_true hm.1.1.2
  exact ⟨by omega, by omega, b1, b2, b3, b4, b5, x _ ha rfl, v _ ha rfl⟩
 rw [if_neg k3] at hm ha
 by_cases k8 : p.kind = 8
 ·rw [if_pos k8] at hm ha
  obtain ⟨b1, b2, b3, b4, b5⟩ := z _ ha rfl rfl rfl rfl
  obtain ⟨c1, c2⟩ := y _ ha rfl rfl
  rw [Bool.and_eq_true] at hm
  refine ⟨c1, c2, b1, b2, b3, b4, b5, fun t ht => ?_, v _ ha rfl⟩
  have h2 := fitL_all hm.2 t ht
  unfold mayWant at h2
  rw [Bool.and_eq_true] at h2
  have := filterR_len h2.1
  omega
 rw [if_neg k8] at hm ha
 by_cases k9 : p.kind = 9
 ·rw [if_pos k9] at ha
  obtain ⟨b1, b2, b3, b4, b5⟩ := z _ ha rfl rfl rfl rfl
  obtain ⟨c1, c2⟩ := y _ ha rfl rfl
  exact ⟨c1, c2, b1, b2, b3, b4, b5, x _ ha rfl, v _ ha rfl⟩
 rw [if_neg k9] at hm ha
 by_cases k10 : p.kind = 10
 ·rw [if_pos k10] at hm ha
  obtain ⟨b1, b2, b3, b4, b5⟩ := z _ ha rfl rfl rfl rfl
  obtain ⟨c1, c2⟩ := y _ ha rfl rfl
  rw [Bool.and_eq_true] at hm
  refine ⟨c1, c2, b1, b2, b3, b4, b5, x _ ha rfl, fun t ht => ?_⟩
  have := filterR_len (fitL_all hm.2 t ht)
  omega
 rw [if_neg k10] at ha
 split at ha
 all_goals
  obtain ⟨b1, b2, b3, b4, b5⟩ := z _ ha rfl rfl rfl rfl
  obtain ⟨c1, c2⟩ := y _ ha rfl rfl
  exact ⟨c1, c2, b1, b2, b3, b4, b5, x _ ha rfl, v _ ha rfl⟩
theorem rTurn_pk {u : Bool} {l r : List UInt8} {t : Tn} (h : rTurn pkC u l = some (t, r)) (hk : t.kind = 2) : rightP t.pk := by
 unfold rTurn at h
 obtain ⟨k, h1, h⟩ := Option.bind_eq_some_iff.1 h
 obtain ⟨c, h2, h⟩ := Option.bind_eq_some_iff.1 h
 have hkk : ∀ (c : Int), ({ zTn (k.1 : Int) with conn := c } : Tn).kind = (k.1 : Int) := fun _ => rfl
 by_cases k2 : (k.1 : Int) = 2
 ·rw [rPart_2 ((hkk _).trans k2)] at h
  obtain ⟨s, h3, h⟩ := Option.bind_eq_some_iff.1 h
  obtain ⟨p, h4, h⟩ := Option.bind_eq_some_iff.1 h
  cases h
  exact ((pkC.iff _ _).1 h4).1
 ·exfalso
  have e : t.kind = (k.1 : Int) := by
   unfold rPart at h
   rw [if_neg (by exact k2)] at h
   split at h
   ·obtain ⟨s, h3, h⟩ := Option.bind_eq_some_iff.1 h
    cases h; rfl
   split at h
   ·obtain ⟨s, h3, h⟩ := Option.bind_eq_some_iff.1 h
    obtain ⟨s2, h4, h⟩ := Option.bind_eq_some_iff.1 h
    cases h; rfl
   split at h
   ·obtain ⟨s, h3, h⟩ := Option.bind_eq_some_iff.1 h
    obtain ⟨s2, h4, h⟩ := Option.bind_eq_some_iff.1 h
    cases h; rfl
   split at h
   ·cases h; rfl
   ·cases h
  omega
theorem rScript_pk {u : Bool} {l : List UInt8} {s : Sc} (h : rScript pkC u l = some s) : ∀ t ∈ s.ts, t.kind = 2 -> rightP t.pk := by
 unfold rScript at h
 obtain ⟨x, h1, h⟩ := Option.bind_eq_some_iff.1 h
 obtain ⟨y, h2, h⟩ := Option.bind_eq_some_iff.1 h
 obtain ⟨ts, h3, h⟩ := Option.bind_eq_some_iff.1 h
 split at h
 ·cases h
  exact rAll_all (P := fun t : Tn => t.kind = 2 -> rightP t.pk) (fun l x r h => rTurn_pk h) _ _ _ h3
 ·cases h
end
section
attribute [local go_sem] Oper.semAt_some
structure ParA (C : PkCode) (l : List UInt8) (w : World) (e : Ending) (w' : World) : Prop where
 below : Below w.heap.size w w'
 out : (65536 < l.length /\ e = .returned (.tuple #[.agg zSc.cells.toArray, .int .i64 3])) \/ (l.length <= 65536 /\ (∀ s, rScript C false l = some s -> ¬ rightS s) /\ e = .returned (.tuple #[.agg zSc.cells.toArray, .int .i64 390])) \/
  (l.length <= 65536 /\ ∃ s : ScC, rScript C false l = some s.sc /\ rightS s.sc /\ e = .returned (.tuple #[.agg s.cells.toArray, .int .i64 0]) /\ s.In w')
theorem sc_Parse (C : PkCode) (a : Option Addr) (n c : Nat) (l : List UInt8) (w : World) (hrow : RowAt w a n c (bs l)) (hn : n <= 70368744177664) (hT : TzAt w)
  (hN : ∀ s, rScript C false l = some s -> NewOK s.cf) (hK : ∀ s, rScript C false l = some s -> ∀ x : TnC, x.t ∈ s.ts -> KindDo x) (hD : 19 <= l.length -> ∀ k, ReadDo C k) :
  Calls Tryz.prog 8 #[.slice a n c] w (ParA C l w) := by
 have hmf : ∀ (fn : Fn) (first cap : Array Value) (w : World), (Instr.makeFunc fn first cap).run Tryz.prog w = .ok (.func fn first cap) w := fun _ _ _ _ => rfl
 obtain ⟨W0, hW0⟩ : ∃ W0, w.alloc (.cells #[.slice a n c] 22) = W0 := ⟨_, rfl⟩
 have hb0 : Below w.heap.size w W0 := by rw [<- hW0]; exact (Below.refl _ _).alloc (Nat.le_refl _) _
 have hg0 : Boxed W0 w.heap.size 22 (.slice a n c) := by rw [<- hW0]; exact Boxed.new _ _ _
 obtain ⟨W1, hW1⟩ : ∃ W1, W0.alloc (.cells #[.int .i64 0, .int .i64 0, .int .i64 0, .int .i64 0, .int .i64 0, .int .i64 0, .string ⟨#[]⟩, .int .i64 0, .slice none 0 0] 30) = W1 := ⟨_, rfl⟩
 have hb1 : Below w.heap.size w W1 := by rw [<- hW1]; exact hb0.alloc hb0.size _
 have hx1 : Blk W1 W0.heap.size zSc.cells.toArray 30 := by rw [<- hW1]; exact Blk.new _ _ _
 have hg1 : Boxed W1 w.heap.size 22 (.slice a n c) := by rw [<- hW1]; exact hg0.alloc _
 have hw0 := hg0.lt
 have hw1 := hx1.lt
 obtain ⟨b, hbb⟩ : ∃ b, W0.heap.size = b := ⟨_, rfl⟩
 rw [hbb] at hx1 hw1 hw0
 have he := enters_of Tryz.func18 (by kernel_rfl) rfl
 have hk1 : PaK w b W1.heap.size (W1.alloc (.cells #[.int .i64 0] 31)) := ⟨hb1.alloc hb1.size _, hx1.alloc _, Boxed.new _ _ _⟩
 have C1 := hid (sc_guard 18 #[.pointer (some ⟨w.heap.size, 0, none⟩), .pointer (some ⟨b, 0, none⟩)] (PaR C l w b W1.heap.size) W1 he
  (sc_Parse1 C a n c l w (W1.alloc (.cells #[.int .i64 0] 31)) w.heap.size b W1.heap.size (hrow.below (hb1.alloc hb1.size _)) (hg1.alloc _) hk1 hn (hT.below (hb1.alloc hb1.size _)) (by omega) (by omega) hN hK hD))
 have hbw := hid (show w.heap.size <= b by omega)
 replace hw1 := hid hw1;replace hb1 := hid hb1;clear hrow hT hN hK hD hg0 hg1 hb0 hk1 hx1;go_enter Tryz.func8, Tryz.ntmps8
 go_wp2_with fail
 refine C1.out.mono ?_
 rintro e w2 ⟨o, w1, rfl, hR, hb2, hl⟩
 obtain ⟨z, hz⟩ : ∃ z, o.getD 0 = z := ⟨_, rfl⟩
 have hsz : (w1.setCell ⟨W1.heap.size, 0, none⟩ (.int .i64 (o.getD 0))).heap.size = w1.heap.size := by simp
 have hse : Wrote [W1.heap.size] w1 (w1.setCell ⟨W1.heap.size, 0, none⟩ (.int .i64 (o.getD 0))) := Wrote.setCell w1 _ (by simp) _
 have hse2 : Wrote [W1.heap.size] w1 w2 := hse.trans (Wrote.of_below (by rw [hsz]; exact hb2))
 have hBel : Below w.heap.size w w2 := hR.below.trans (hse2.below (n₀ := w.heap.size) hR.below.size (by have := hb1.out.size; simp; omega))
 obtain ⟨s, hv, hA⟩ : ∃ s : ScC, Blk w2 b s.cells.toArray 30 /\ ∀ w3, Below w.heap.size w w3 -> Wrote [b] w2 w3 -> ParA C l w (.returned (.tuple #[.agg s.cells.toArray, .int .i64 (o.getD 0)])) w3 := by
  have hkp : ∀ cs, Blk w1 b cs 30 -> Blk w2 b cs 30 := fun cs h => h.keepW hse2 (by have := hw1.out; simp; omega)
  rcases hR.out with ⟨h1, rfl, h3⟩ | ⟨h1, h2, rfl, h3⟩ | ⟨h1, s, h2, h3, rfl, h4, h5⟩
  ·exact ⟨zSc, hkp _ h3, fun w3 hb _ => ⟨hb, .inl ⟨h1, rfl⟩⟩⟩
  ·exact ⟨zSc, hkp _ h3, fun w3 hb _ => ⟨hb, .inr (.inl ⟨h1, h2, rfl⟩)⟩⟩
  ·refine ⟨s, hkp _ h4, fun w3 hb hw => ⟨hb, .inr (.inr ⟨h1, s, h2, h3, rfl, ?_⟩)⟩⟩
   exact h5 w3 ((hse2.sub (by simp)).trans (hw.sub (by simp)))
 rw [hz] at hA ⊢
 obtain ⟨sv, hsv⟩ : ∃ sv, s.cells.toArray = sv := ⟨_, rfl⟩
 have is : (Tryz.prog.info? 30).map (·.size) = some sv.size := by rw [<- hsv]; exact (by kernel_rfl : (Tryz.prog.info? 30).map (·.size) = some 9)
 have hsize : sv.size = 9 := by rw [<- hsv]; rfl
 have hone : Hid (∀ u ∈ sv.toList, u.oneCell' = true) := hid (by rw [<- hsv]; simp [ScC.cells, Value.oneCell'])
 rw [hsv] at hv hA
 replace hA := hid hA;replace hBel := hid hBel;replace hsize := hid hsize;clear hb2 hR hl hsz hse hse2 hz hsv
 go_wp2_with (first
  | (refine wL 30 rfl rfl hv Tryz.underlying30 ?_ rfl rfl is)
  | (refine wS 30 9 rfl b sv sv rfl rfl hv hsize.out hsize.out hone.out ?_; intro w3 hv3 hw3))
 refine bodyPost_ret (results_ct1 Tryz.results8 rfl (run_loadVar_blk hv3 30 Tryz.underlying30 rfl is) rfl) rfl ?_
 exact hA.out w3 (hBel.out.trans (hw3.below (n₀ := w.heap.size) hBel.out.size (by simp; exact hbw.out))) hw3
end
end Go.Proofs.YtkghejaimhoboaaGreatDoor
