/- Parts of the proof of ScriptCuts: contracts of functions that it reaches, and plain lemmas. No condition of their own. -/
import Derived.Test.YtkghejaimhoboaaGreatDoorPk46
import Derived.Test.YtkghejaimhoboaaGreatDoorPk13
import Derived.Test.YtkghejaimhoboaaGreatDoorPk22
import Derived.Test.YtkghejaimhoboaaGreatDoorPk15
set_option linter.unusedSimpArgs false
set_option linter.unusedVariables false
set_option maxRecDepth 100000
set_option maxHeartbeats 8000000
namespace Go.Proofs.YtkghejaimhoboaaGreatDoor
open Go.RowKit Go.Shelf
section
attribute [local go_sem] Oper.semAt_some
theorem cfg_neq (a0 b0 : Int) (a1 b1 : Int) (a2 b2 : Int) (a3 b3 : Int) (a4 b4 : Int) (a5 b5 : Int) (a6 b6 : List UInt8) (W : World) : (binOp .neq 27 (.agg #[.int .i64 a0, .int .i64 a1, .int .i64 a2, .int .i64 a3, .int .i64 a4, .int .i64 a5, .string ⟨a6.toArray⟩]) (.agg #[.int .i64 b0, .int .i64 b1, .int .i64 b2, .int .i64 b3, .int .i64 b4, .int .i64 b5, .string ⟨b6.toArray⟩])).run Tryz.prog W = .ok (.bool (!(decide (a0 = b0) && decide (a1 = b1) && decide (a2 = b2) && decide (a3 = b3) && decide (a4 = b4) && decide (a5 = b5) && decide (a6 = b6)))) W := by
 go_simp;by_cases h0 : a0 = b0
 ·subst h0
  by_cases h1 : a1 = b1
  ·subst h1
   by_cases h2 : a2 = b2
   ·subst h2
    by_cases h3 : a3 = b3
    ·subst h3
     by_cases h4 : a4 = b4
     ·subst h4
      by_cases h5 : a5 = b5
      ·subst h5
       by_cases h6 : a6 = b6
       ·subst h6
        simp
       ·simp [h6]
      ·simp [h5]
     ·simp [h4]
    ·simp [h3]
   ·simp [h2]
  ·simp [h1]
 ·simp [h0]
def cfB (c d : CfV) : Bool := decide (c.window = d.window) && decide (c.room = d.room) && decide (c.inbox = d.inbox) && decide (c.subs = d.subs) && decide (c.sessions = d.sessions) && decide (c.retained = d.retained) && decide (c.secret = d.secret)
theorem cf_neq (c d : CfV) (W : World) : (binOp .neq 27 (.agg c.cl.toArray) (.agg d.cl.toArray)).run Tryz.prog W = .ok (.bool (!cfB c d)) W := cfg_neq _ _ _ _ _ _ _ _ _ _ _ _ _ _ W
theorem cf_gun (c d : CfV) (s1 s2 : Operand) (W : World) : (eqGuard .neq 27 s1 s2 (.agg c.cl.toArray) (.agg d.cl.toArray)).run Tryz.prog W = .ok () W := by
 unfold CfV.cl
 go_simp
theorem cfB_iff (c d : CfV) : cfB c d = true ↔ c = d := by
 obtain ⟨a1, a2, a3, a4, a5, a6, a7⟩ := c
 obtain ⟨b1, b2, b3, b4, b5, b6, b7⟩ := d
 unfold cfB
 simp only [Bool.and_eq_true, decide_eq_true_eq, CfV.mk.injEq, and_assoc]
structure SEq (s t : ScC) : Prop where
 cf : cfB s.cf t.cf = true
 pages : s.pages = t.pages
 ts : s.ts.map TnC.t = t.ts.map TnC.t
theorem SEq.iff (s t : ScC) : s.sc = t.sc ↔ SEq s t := by
 unfold ScC.sc
 rw [Sc.mk.injEq]
 constructor
 ·rintro ⟨a, b, c⟩
  exact ⟨(cfB_iff _ _).2 a, b, c⟩
 ·rintro ⟨a, b, c⟩
  exact ⟨(cfB_iff _ _).1 a, b, c⟩
end
section
attribute [local go_sem] Oper.semAt_some
structure SB (b : Nat) (s t : ScC) (w : World) : Prop where
 one : Blk w b s.cells.toArray 30
 two : Blk w (b + 1) t.cells.toArray 30
theorem SB.below {b : Nat} {s t : ScC} {w w' : World} (h : SB b s t w) (hb : Below w.heap.size w w') : SB b s t w' := ⟨h.one.below hb, h.two.below hb⟩
theorem r28_Same (s t : ScC) (w : World) (hs : s.In w) (ht : t.In w) :
  Calls Tryz.prog 10 #[.agg s.cells.toArray, .agg t.cells.toArray] w (Tells (s.sc = t.sc) w) := by
 have hiff := SEq.iff s t
 obtain ⟨P, hP⟩ : ∃ P : Prop, (s.sc = t.sc) = P := ⟨_, rfl⟩
 rw [hP] at hiff ⊢
 clear hP;replace hiff := hid hiff;have HS := hid hs;have HT := hid ht;obtain ⟨sv, hsv⟩ : ∃ sv, s.cells.toArray = sv := ⟨_, rfl⟩
 obtain ⟨tv, htv⟩ : ∃ tv, t.cells.toArray = tv := ⟨_, rfl⟩
 obtain ⟨W0, hW0⟩ : ∃ W0, (w.alloc (.cells sv 30)).alloc (.cells tv 30) = W0 := ⟨_, rfl⟩
 have hb0 : Below w.heap.size w W0 := by rw [<- hW0]; exact ((Below.refl _ _).alloc (Nat.le_refl _) _).alloc (by simp) _
 have b1 : Blk W0 w.heap.size s.cells.toArray 30 := by
  rw [<- hW0, <- hsv, <- htv]
  exact (Blk.new _ _ _).alloc _
 have b2 : Blk W0 (w.heap.size + 1) t.cells.toArray 30 := by
  rw [<- hW0, <- hsv, <- htv]
  have := Blk.new (w.alloc (.cells s.cells.toArray 30)) t.cells.toArray 30
  simpa using this
 have m1 := b1.mid [] s.cf.cl [.int .i64 s.pages, .slice s.ht.a s.ht.n s.ht.c] rfl
 have m2 := b2.mid [] t.cf.cl [.int .i64 t.pages, .slice t.ht.a t.ht.n t.ht.c] rfl
 have k7 : W0.cell? ⟨w.heap.size, 7, none⟩ = some (.int .i64 s.pages) := b1.cell 7
 have j7 : W0.cell? ⟨w.heap.size + 1, 7, none⟩ = some (.int .i64 t.pages) := b2.cell 7
 have k8 : W0.cell? ⟨w.heap.size, 8, none⟩ = some (.slice s.ht.a s.ht.n s.ht.c) := b1.cell 8
 have j8 : W0.cell? ⟨w.heap.size + 1, 8, none⟩ = some (.slice t.ht.a t.ht.n t.ht.c) := b2.cell 8
 have hq := cf_neq s.cf t.cf
 have hg := cf_gun s.cf t.cf
 obtain ⟨v1, hv1⟩ : ∃ v, Value.agg s.cf.cl.toArray = v := ⟨_, rfl⟩
 obtain ⟨v2, hv2⟩ : ∃ v, Value.agg t.cf.cl.toArray = v := ⟨_, rfl⟩
 obtain ⟨c1, hc1⟩ : ∃ c, cfB s.cf t.cf = c := ⟨_, rfl⟩
 rw [hv1, hv2, hc1] at hq
 rw [hv1, hv2] at hg
 have hb0 := hid hb0;replace hc1 := hid hc1;have V1 := hid hv1;have V2 := hid hv2;have hSB : SB w.heap.size s t W0 := ⟨b1, b2⟩
 have hSB := hid hSB;have hm : s.ht.n <= 9223372036854775807 := by have := hs.t.le; have := hs.t.max; unfold maxLen at this; omega
 clear hs ht b1 b2;rw [hsv, htv]
 replace hsv := hid hsv;replace htv := hid htv;cases c1 with
 | false =>
  have hno : Hid (¬ P) := hid fun e => by have h7 := (hiff.out.1 e).cf; rw [hc1.out] at h7; cases h7
  go_enter Tryz.func10, Tryz.ntmps10
  go_wp2_with (first
   | (refine wLm 27 rfl rfl m1 Tryz.underlying27 ?_)
   | (refine wLm 27 rfl rfl m2 Tryz.underlying27 ?_))
  go_ret
  exact Tells.no hno.out hb0.out
 | true =>
  by_cases hp : s.pages = t.pages
  ·by_cases hl : t.ht.n = s.ht.n
   ·skip
    go_enter Tryz.func10, Tryz.ntmps10
    go_wp2_with (first
     | (refine wLm 27 rfl rfl m1 Tryz.underlying27 ?_)
     | (refine wLm 27 rfl rfl m2 Tryz.underlying27 ?_))
    have hp := hid hp;clear m1 m2 k7 j7;go_loopw [5] (fun i wr => ∃ j : Nat, i = .int .i64 j /\ j <= s.ht.n /\ Hid (Below w.heap.size w wr) /\ Hid (SB w.heap.size s t wr) /\ Hid (∀ (m : Nat) x y, m < j -> s.ts[m]? = some x -> t.ts[m]? = some y -> x.t = y.t)) (fun i _ => s.ht.n - (intOf i).toNat)
    case atStart => exact ⟨0, rfl, Nat.zero_le _, hb0, hSB, hid fun m x y hm => absurd hm (by omega)⟩
    case round =>
     obtain ⟨j, rfl, hj, hbr, hPr, hall⟩ := hrel
     have p8 : wr.cell? ⟨w.heap.size, 8, none⟩ = some (.slice s.ht.a s.ht.n s.ht.c) := hPr.out.one.cell 8
     rcases Nat.lt_or_ge j s.ht.n with hlt | hge
     ·obtain ⟨x, hx⟩ : ∃ x, s.ts[j]? = some x := ⟨_, List.getElem?_eq_getElem (by rw [HS.out.t.len]; omega)⟩
      obtain ⟨y, hy⟩ : ∃ y, t.ts[j]? = some y := ⟨_, List.getElem?_eq_getElem (by rw [HT.out.t.len, hl]; omega)⟩
      obtain ⟨g1, o1, ha1, hr1⟩ := HS.out.t.range hx
      obtain ⟨g2, o2, ha2, hr2⟩ := HT.out.t.range hy
      have hc1' := hr1 _ hbr.out.drew
      have hc2' := hr2 _ hbr.out.drew
      have hPd : SB w.heap.size s t wr.drew := ⟨hPr.out.one, hPr.out.two⟩
      have hbd := hid hbr.out.drew;have CS := hid (r28_SameTurn x y wr.drew ((HS.out.each x (List.mem_of_getElem? hx)).below hbd.out) ((HT.out.each y (List.mem_of_getElem? hy)).below hbd.out))
      replace hx := hid hx;replace hy := hid hy;obtain ⟨xc, hxc⟩ : ∃ xc, x.cells = xc := ⟨_, rfl⟩
      obtain ⟨yc, hyc⟩ : ∃ yc, y.cells = yc := ⟨_, rfl⟩
      rw [hxc, hyc] at CS
      have hs1 : Hid (s.cells.toArray[8]? = some (.slice (some ⟨g1, o1, none⟩) s.ht.n s.ht.c)) := hid (by rw [<- ha1]; rfl)
      have hs2 : Hid (t.cells.toArray[8]? = some (.slice (some ⟨g2, o2, none⟩) t.ht.n t.ht.c)) := hid (by rw [<- ha2]; rfl)
      replace hxc := hid hxc;replace hyc := hid hyc;replace ha1 := hid ha1;replace ha2 := hid ha2;clear hr1 hr2;go_wp2_with fail
      refine regionQ [(1000, fun w' => SB w.heap.size s t w'), (1000, fun w' => w'.rangeAt g1 (o1 + j * 30) x.cells), (1000, fun w' => w'.rangeAt g2 (o2 + j * 30) y.cells)] (by kernel_rfl) ⟨hPd, hc1', hc2', trivial⟩ fun KQ hKQ => ?_
      refine tQ [0] ?_;refine lR 1 0 rfl rfl rfl rfl (fun w' hf => by (have k0 := (hf.one.cell 8).trans hs1.out; go_simp <;> with_reducible rfl)) ?_
      simp only [PT];refine tQ [2, 3] ?_;refine lR 4 1 rfl rfl rfl rfl (v := .agg xc.toArray) (fun w' hf => by rw [<- hxc.out]; exact run_loadAt_mid w' _ _ 55 x.cells _ hf Tryz.underlying55 rfl (by kernel_rfl)) ?_
      try simp only [PT]
      refine tQ [5] ?_;refine lR 6 0 rfl rfl rfl rfl (fun w' hf => by (have k0 := (hf.two.cell 8).trans hs2.out; go_simp <;> with_reducible rfl)) ?_
      simp only [PT];refine tQ [7, 8] ?_;refine lR 9 2 rfl rfl rfl rfl (v := .agg yc.toArray) (fun w' hf => by rw [<- hyc.out]; exact run_loadAt_mid w' _ _ 55 y.cells _ hf Tryz.underlying55 rfl (by kernel_rfl)) ?_
      try simp only [PT]
      refine sQ 10 fun K hK => ?_;simp only [GO];go_simp;refine CS.out.mono ?_
      rintro e w7 ⟨bb, rfl, hbb, hb7⟩
      have hS7 : SB w.heap.size s t w7 := hPd.below hb7
      have HS7 := hid hS7;have HB7 := hid (hbd.out.trans (hb7.mono hbd.out.size))
      have hc17 : w7.rangeAt g1 (o1 + j * 30) x.cells := range_below hc1' (by have := (HS.out.t.at' j x hx.out); obtain ⟨g', o', e1, e2, e3⟩ := this; rw [ha1.out] at e1; cases e1; have := hbd.out.size; omega) hb7
      have hc27 : w7.rangeAt g2 (o2 + j * 30) y.cells := range_below hc2' (by have := (HT.out.t.at' j y hy.out); obtain ⟨g', o', e1, e2, e3⟩ := this; rw [ha2.out] at e1; cases e1; have := hbd.out.size; omega) hb7
      replace hbb := hid hbb;refine hK _ _ ⟨⟨fun _ => hS7, fun _ => hc17, fun _ => hc27, trivial⟩, ?_⟩
      clear hK K hb7 hc17 hc27 hc1' hc2';try simp only [PT]
      refine tQ [11] ?_;refine dQ (hKQ.out _ _ ?_);clear hKQ KQ;cases bb with
      | false =>
       go_wp2_with fail
       go_ret
       refine Tells.no (fun e => ?_) HB7.out
       have h7 := (hiff.out.1 e).ts
       have h8 : (s.ts.map TnC.t)[j]? = some x.t := by rw [List.getElem?_map, hx.out]; rfl
       have h9 : (t.ts.map TnC.t)[j]? = some y.t := by rw [List.getElem?_map, hy.out]; rfl
       rw [h7, h9] at h8
       have h10 := hbb.out.2 (Option.some.inj h8).symm
       cases h10
      | true =>
       have hxy : Hid (x.t = y.t) := hid (hbb.out.1 rfl)
       clear hbb;go_wp2_with fail
       go_roundw
       case rel =>
        refine ⟨j + 1, by go_num, by omega, HB7, HS7, hid fun m x' y' hm h7 h8 => ?_⟩
        by_cases hmj : m = j
        ·subst hmj
         rw [hx.out] at h7
         rw [hy.out] at h8
         cases h7
         cases h8
         exact hxy.out
        ·exact hall.out m x' y' (by omega) h7 h8
       case measure => simp [intOf]; omega
     ·obtain rfl : j = s.ht.n := by omega
      go_wp2_with fail
      go_ret
      refine Tells.yes (hiff.out.2 ⟨hc1.out, hp.out, ?_⟩) hbr.out
      rw [map_eq_iff TnC.t s.ts t.ts (by rw [HS.out.t.len, HT.out.t.len, hl])]
      intro m x y hx hy
      exact hall.out m x y (by have := (List.getElem?_eq_some_iff.1 hx).1; rw [HS.out.t.len] at this; exact this) hx hy
   ·have dn : ((s.ht.n : Int) == (t.ht.n : Int)) = false := by simpa using fun e => hl (by omega)
    have hno : Hid (¬ P) := hid fun e => by
     have h7 := congrArg List.length (hiff.out.1 e).ts
     rw [List.length_map, List.length_map, HS.out.t.len, HT.out.t.len] at h7
     exact hl h7.symm
    replace hl := hid hl;go_enter Tryz.func10, Tryz.ntmps10
    go_wp2_with (first
     | (refine wLm 27 rfl rfl m1 Tryz.underlying27 ?_)
     | (refine wLm 27 rfl rfl m2 Tryz.underlying27 ?_))
    go_ret
    exact Tells.no hno.out hb0.out
  ·have dn : (s.pages == t.pages) = false := by simpa using hp
   have hno : Hid (¬ P) := hid fun e => hp (hiff.out.1 e).pages
   replace hp := hid hp;go_enter Tryz.func10, Tryz.ntmps10
   go_wp2_with (first
    | (refine wLm 27 rfl rfl m1 Tryz.underlying27 ?_)
    | (refine wLm 27 rfl rfl m2 Tryz.underlying27 ?_))
   go_ret
   exact Tells.no hno.out hb0.out
end
section
attribute [local go_sem] Oper.semAt_some
theorem in_New_bad (most : Int) (w : World) (h : most < 1 \/ 1000 < most) : Calls Tryz.prog 226 #[.int .i64 most] w fun e w' => e = .returned (.tuple #[.pointer none, .int .i64 2]) /\ w = w' := by
 by_cases h1 : most < 1
 ·have d1 : decide (most < 1) = true := decide_eq_true h1
  go_enter Tryz.func226, Tryz.ntmps226
  go_wp2
  go_returns
  exact ⟨rfl, rfl⟩
 ·have d1 : decide (most < 1) = false := decide_eq_false h1
  have d2 : decide (most > 1000) = true := decide_eq_true (by omega)
  go_enter Tryz.func226, Tryz.ntmps226
  go_wp2
  go_returns
  exact ⟨rfl, rfl⟩
structure NoP (w : World) (e : Ending) (w' : World) : Prop where
 out : ∃ x, e = .returned (.tuple #[x, .int .i64 2]) /\ Below w.heap.size w w'
theorem out_Of_bad (window room : Int) (cs : Array Value) (w : World) (hb : ¬ (1 <= window /\ window <= 100 /\ 1 <= room /\ room <= 1000)) :
  Calls Tryz.prog 227 #[.int .i64 window, .int .i64 room, .agg cs, .slice none 0 0] w (NoP w) := by
 have CI := hid (in_New 100 (w.alloc (.cells cs 136)) (by decide) (by decide))
 have hb0 := hid ((Below.refl w.heap.size w).alloc (Nat.le_refl _) (.cells cs 136))
 have d0 : ∀ a b : Int, a < b -> decide (a < b) = true := fun a b h => decide_eq_true h
 by_cases h1 : window < 1
 ·have d1 : decide (window < 1) = true := decide_eq_true h1
  clear d0;go_enter Tryz.func227, Tryz.ntmps227
  go_wp2
  apply wp_scope_fwd 0 rfl
  go_wp2_with fail
  refine CI.out.mono ?_
  rintro e w1 ⟨rfl, -, hb1⟩
  have HB := hid (hb0.out.trans (hb1.mono hb0.out.size))
  clear hb1;go_wp2
  refine wp_goto ?_
  refine ⟨rfl, ?_⟩
  go_wp2
  try simp only [Exit.noGoto_ret]
  go_returns
  exact ⟨_, rfl, HB.out⟩
 have d1 : decide (window < 1) = false := decide_eq_false h1
 by_cases h2 : 100 < window
 ·have d2 : decide (100 < window) = true := decide_eq_true h2
  clear d0;go_enter Tryz.func227, Tryz.ntmps227
  go_wp2
  apply wp_scope_fwd 0 rfl
  go_wp2_with fail
  refine CI.out.mono ?_
  rintro e w1 ⟨rfl, -, hb1⟩
  have HB := hid (hb0.out.trans (hb1.mono hb0.out.size))
  clear hb1;go_wp2
  refine wp_goto ?_
  refine ⟨rfl, ?_⟩
  go_wp2
  try simp only [Exit.noGoto_ret]
  go_returns
  exact ⟨_, rfl, HB.out⟩
 have d2 : decide (100 < window) = false := decide_eq_false h2
 by_cases h3 : room < 1
 ·have d3 : decide (room < 1) = true := decide_eq_true h3
  clear d0;go_enter Tryz.func227, Tryz.ntmps227
  go_wp2
  apply wp_scope_fwd 0 rfl
  go_wp2_with fail
  refine CI.out.mono ?_
  rintro e w1 ⟨rfl, -, hb1⟩
  have HB := hid (hb0.out.trans (hb1.mono hb0.out.size))
  clear hb1;go_wp2
  refine wp_goto ?_
  refine ⟨rfl, ?_⟩
  go_wp2
  try simp only [Exit.noGoto_ret]
  go_returns
  exact ⟨_, rfl, HB.out⟩
 have d3 : decide (room < 1) = false := decide_eq_false h3
 have d4 : decide (1000 < room) = true := decide_eq_true (by omega)
 clear d0;go_enter Tryz.func227, Tryz.ntmps227
 go_wp2
 apply wp_scope_fwd 0 rfl
 go_wp2_with fail
 refine CI.out.mono ?_
 rintro e w1 ⟨rfl, -, hb1⟩
 have HB := hid (hb0.out.trans (hb1.mono hb0.out.size))
 clear hb1;go_wp2
 refine wp_goto ?_
 refine ⟨rfl, ?_⟩
 go_wp2
 try simp only [Exit.noGoto_ret]
 go_returns
 exact ⟨_, rfl, HB.out⟩
end
section
attribute [local go_sem] Oper.semAt_some
theorem ses_Of_bad (win room most subs : Int) (client : List UInt8) (base : Nat) (g : Nat) (w : World) (hT : TzAt w) (hv : RowsAt w base (.slice (some ⟨g, 0, none⟩) 1 1) [sessV client 0 1])
  (hbad : ¬ ((1 <= win /\ win <= 100) /\ (1 <= room /\ room <= 1000) /\ (1 <= most /\ most <= 1000) /\ (1 <= subs /\ subs <= 100))) :
  Calls Tryz.prog 170 #[.agg #[.int .i64 win, .int .i64 room, .int .i64 most, .int .i64 subs], .slice (some ⟨g, 0, none⟩) 1 1] w (NoP w) := by
 have hbx : ∀ (o : Obj), Below w.heap.size w (w.alloc o) := fun o => (Below.refl _ w).alloc (Nat.le_refl _) o
 have CP := hid (fun o => ses_parted base (.slice (some ⟨g, 0, none⟩) 1 1) [sessV client 0 1] (w.alloc o) (ownsRow_below hv (hbx o)) (by simp))
 go_enter Tryz.func170, Tryz.ntmps170
 go_wp2_with fail
 refine (CP.out _).mono ?_
 rintro e w1 ⟨m, G, rfl, hpm, hml, hb1⟩
 have hpm := hid hpm;have hb1 := hid hb1;have HB := hid hbx;clear hbx CP;obtain ⟨a1, c1, hG1⟩ := own_slice (hpm.out.rows 1)
 have hk1 : ofKind [sessV client 0 1] 1 = [sessV client 0 1] := by simp [ofKind, sessV]
 have hk2 : ofKind [sessV client 0 1] 2 = [] := by simp [ofKind, sessV]
 have hk3 : ofKind [sessV client 0 1] 3 = [] := by simp [ofKind, sessV]
 have hk4 : ofKind [sessV client 0 1] 4 = [] := by simp [ofKind, sessV]
 have hr1 := hpm.out.rows 1
 rw [hG1, hk1] at hr1
 rw [hk1] at hG1
 replace hr1 : w1.ownsRow w.heap.size 136 9 (.slice a1 1 c1) 1 ([sessV client 0 1].flatMap RowV.cl) := ownsRow_mono hr1 (by simp)
 replace hG1 : (G 1).getD (.slice none 0 0) = .slice a1 1 c1 := hG1
 obtain ⟨g1, rfl, hcap1, hrow1⟩ := own_range RowV.cl RowV.cllen (l := [sessV client 0 1]) (n := 1) rfl hr1 (k := 0) rfl
 have hg1l := hid (hr1.lt g1 rfl)
 have hG2 : (G 2).getD (.slice none 0 0) = .slice none 0 0 := by rw [hpm.out.no 2 hk2]; rfl
 have hG3 : (G 3).getD (.slice none 0 0) = .slice none 0 0 := by rw [hpm.out.no 3 hk3]; rfl
 have hG4 : (G 4).getD (.slice none 0 0) = .slice none 0 0 := by rw [hpm.out.no 4 hk4]; rfl
 have hrow1 := hid hrow1;have hr1 := hid hr1;clear hk1 hk2 hk3 hk4;replace hG1 := hid hG1;replace hG2 := hid hG2;replace hG3 := hid hG3;replace hG4 := hid hG4;have hbox := hid ((Blk.new w #[.int .i64 win, .int .i64 room, .int .i64 most, .int .i64 subs] 25).below hb1.out)
 go_wp2_with fail
 refine regionQ [(1000, fun w' => IM .i64 w' m G)] (by kernel_rfl) ⟨hpm.out.map.below ((Below.refl _ _).drew), trivial⟩ fun KQ hKQ => ?_
 try simp only [PT]
 refine tQ [0] ?_;refine lookQ 1 rfl (by kernel_rfl) (by kernel_rfl) rfl rfl rfl 0 rfl (by kernel_rfl) _ (fun w' hf => look_pm hf 1 hG1.out) ?_
 try simp only [PT]
 refine tQ [2] ?_;refine lookQ 3 rfl (by kernel_rfl) (by kernel_rfl) rfl rfl rfl 0 rfl (by kernel_rfl) _ (fun w' hf => look_pm hf 2 hG2.out) ?_
 try simp only [PT]
 refine tQ [4] ?_;refine lookQ 5 rfl (by kernel_rfl) (by kernel_rfl) rfl rfl rfl 0 rfl (by kernel_rfl) _ (fun w' hf => look_pm hf 4 hG4.out) ?_
 try simp only [PT]
 refine tQ [6, 7, 8] ?_;refine dQ (hKQ.out _ _ ?_);clear hKQ KQ;have s0 : w1.drew.cell? ⟨w.heap.size, 0, none⟩ = some (.int .i64 win) := hbox.out.cell 0
 have s1 : w1.drew.cell? ⟨w.heap.size, 1, none⟩ = some (.int .i64 room) := hbox.out.cell 1
 have s2 : w1.drew.cell? ⟨w.heap.size, 2, none⟩ = some (.int .i64 most) := hbox.out.cell 2
 have s3 : w1.drew.cell? ⟨w.heap.size, 3, none⟩ = some (.int .i64 subs) := hbox.out.cell 3
 go_wp2_with fail
 have hBx := hid (((HB.out (.cells #[.int .i64 win, .int .i64 room, .int .i64 most, .int .i64 subs] 25)).trans (hb1.out.mono (by simp))).drew)
 by_cases hm : 1 <= most /\ most <= 1000
 ·refine (in_New most w1.drew hm.1 hm.2).mono ?_
  rintro e w2 ⟨rfl, hin, hb2⟩
  have hin := hid hin;have hb2 := hid hb2;have hpm2 := hid (hpm.out.map.below (w' := w2) ⟨hb2.out.os, hb2.out.tape, hb2.out.output, hb2.out.size, hb2.out.block⟩)
  have HL3 := look_pm hpm2.out 3 hG3.out
  have hbox2 := hid (hbox.out.drew.below hb2.out)
  clear s0 s1 s2 s3;have t0 : w2.cell? ⟨w.heap.size, 0, none⟩ = some (.int .i64 win) := hbox2.out.cell 0
  have t1 : w2.cell? ⟨w.heap.size, 1, none⟩ = some (.int .i64 room) := hbox2.out.cell 1
  have t3 : w2.cell? ⟨w.heap.size, 3, none⟩ = some (.int .i64 subs) := hbox2.out.cell 3
  have hB2x := hid (hBx.out.trans (hb2.out.mono hBx.out.size))
  by_cases hs1 : subs < 1
  ·have d1 : decide (subs < 1) = true := decide_eq_true hs1
   go_wp2_with fail
   go_returns
   exact ⟨_, rfl, hB2x.out⟩
  have d1 : decide (subs < 1) = false := decide_eq_false hs1
  by_cases hs2 : 100 < subs
  ·have d2 : decide (100 < subs) = true := decide_eq_true hs2
   go_wp2_with fail
   go_returns
   exact ⟨_, rfl, hB2x.out⟩
  have d2 : decide (100 < subs) = false := decide_eq_false hs2
  have d3 : decide (subs < 0) = false := decide_eq_false (by omega)
  go_wp2_with fail
  clear HL3 t0 t1 t3;have hrow2 : Hid (w2.rangeAt g1 0 (sessV client 0 1).cl) := hid (range_below2 hrow1.out hg1l.out.2 hb2.out)
  have hB1 := hid ((HB.out (.cells #[.int .i64 win, .int .i64 room, .int .i64 most, .int .i64 subs] 25)).trans (hb1.out.mono (by simp)))
  have hB2 := hid (hB1.out.drew.trans (hb2.out.mono (by have := hB1.out.size; exact this)))
  have hT2 := hid (hT.below hB2.out.drew)
  refine regionQ [(1000, fun w' => w'.cell? ⟨w.heap.size, 0, none⟩ = some (.int .i64 win)), (1000, fun w' => w'.cell? ⟨w.heap.size, 1, none⟩ = some (.int .i64 room)), (1000, fun w' => w'.rangeAt g1 0 (sessV client 0 1).cl), (9, fun w' => IM .i64 w' m G)] (by kernel_rfl) ⟨hbox2.out.cell 0, hbox2.out.cell 1, hrow2.out, hpm2.out, trivial⟩ fun KQ hKQ => ?_
  try simp only [PT]
  refine tQ [0] ?_;refine lQ 1 0 ?_;refine tQ [2] ?_;refine lQ 3 1 ?_;refine tQ [4, 5] ?_;refine lR 6 2 rfl rfl rfl rfl (v := .agg ((sessV client 0 1).cl : List Value).toArray) (fun w' hf => run_loadAt_mid w' _ _ 136 ((sessV client 0 1).cl : List Value) _ hf Tryz.underlying136 rfl (by kernel_rfl)) ?_
  simp only [PT];refine tQ [7] ?_;refine lookQ 8 rfl (by kernel_rfl) (by kernel_rfl) rfl rfl rfl 3 rfl (by kernel_rfl) _ (fun w' hf => look_pm hf 3 hG3.out) ?_
  try simp only [PT]
  refine sQ 9 fun K hK => ?_;simp only [GO];go_simp;refine (out_Of_bad win room _ w2.drew (fun h => hbad ⟨⟨h.1, h.2.1⟩, ⟨h.2.2.1, h.2.2.2⟩, hm, by omega, by omega⟩)).mono ?_
  rintro e w3 ⟨x, rfl, hb3⟩
  have hB3 : Hid (Below w2.drew.heap.size w2.drew w3) := hid hb3
  have hB3x := hid (hB2x.out.drew.trans (hb3.mono hB2x.out.size))
  clear hb3;have hbox3 := hid (hbox2.out.drew.below hB3.out)
  refine hK _ _ ⟨⟨fun _ => hbox3.out.cell 0, fun _ => hbox3.out.cell 1, fun _ => range_below2 hrow2.out (by have := hg1l.out.2; have := hb2.out.size; simp at this; omega) hB3.out, fun h => absurd (show true = false from h) (by decide), trivial⟩, ?_⟩
  clear hK K;try simp only [PT]
  refine tQ [10, 11, 12, 13, 14] ?_;refine dQ (hKQ.out _ _ ?_);clear hKQ KQ;go_wp2_with fail
  go_returns
  exact ⟨_, rfl, hB3x.out⟩
 ·refine (in_New_bad most w1.drew (by omega)).mono ?_
  rintro e w2 ⟨rfl, rfl⟩
  go_wp2_with fail
  go_returns
  exact ⟨_, rfl, hBx.out⟩
end
section
theorem getObj_m {P : Program} {w : World} {r : Nat} {es : Array MapEntry} {c : Nat} (h : w.heap[r]? = some (.map es c)) : (getObj r).run P w = .ok (.map es c) w := by simp [getObj, Sem.run, h]
theorem getObj_i {P : Program} {w : World} {r : Nat} {m : Option Nat} {s l : Nat} {q : Array Nat} (h : w.heap[r]? = some (.mapIter m s q l)) : (getObj r).run P w = .ok (.mapIter m s q l) w := by simp [getObj, Sem.run, h]
theorem run_range_none {P : Program} {t k e : TypeId} (ht : P.underlying t = some (.map k e)) {w : World} {m : Nat} {cl : Nat} (h : w.heap[m]? = some (.map #[] cl)) :
  (Instr.range t (.map (some m))).run P w = .ok (.pointer (some ⟨w.heap.size, 0, none⟩)) (w.alloc (.mapIter (some m) cl #[] cl)) := by
 simp [Instr.range, run_underlying ht, getObj_m h]
theorem run_next_none {P : Program} {w : World} {r m s l cl : Nat} {ty : TypeId} (hr : w.heap[r]? = some (.mapIter (some m) s #[] l)) (h : w.heap[m]? = some (.map #[] cl)) :
  (Instr.next (.pointer (some ⟨r, 0, none⟩)) false ty).run P w = .ok (.tuple #[.bool false]) w := by
 have hf : (Question.mapNext 1).forced = true := by decide
 simp [Instr.next, getObj_i hr, getObj_m h, hf]
theorem run_len_none {P : Program} {t k e : TypeId} (ht : P.underlying t = some (.map k e)) {w : World} {b cl : Nat} (h : w.heap[b]? = some (.map #[] cl)) (ty : TypeId) : (Builtin.len_ #[t] ty #[.map (some b)]).run P w = .ok (.int .i64 0) w := by
 simp [Builtin.len_, Builtin.lenOf, run_underlying ht, getObj_m h, goInt]
section
variable {P : Program} {ops : Array Oper} {KQ : Exit -> Act -> World -> Prop} {facts : List Fact} {taken : List Nat} {a : Act} {w : World}
theorem lenQ (i n : Nat) {oi : Oper} {x : Operand} {tys : Array TypeId} {u v : Value} {k : Nat} {p : World -> Prop} (hi : ops[i]? = some oi) (hop : oi.op = .call { callee := .builtin .len, args := #[x], argTypes := tys }) (hx : a.eval x = u) (hf : facts[n]? = some (k, p))
  (hr : ∀ w', p w' -> (Builtin.len_ tys oi.type #[u]).run P w' = .ok v w') (h : atR P ops KQ facts (i :: taken) (a.put oi.dst v) w)
  (hB : takeB ops (facts.map (·.1)) taken i = true := by kernel_rfl) (hw : Region.wanted oi (yielded ops a.tmps) = true := by kernel_rfl) (hk : waits .any ops k i = true := by kernel_rfl) : atR P ops KQ facts taken a w := by
 refine readQ i hi hB v hw (fun w' hu => ?_) h
 have h1 := hr w' (hu.get k p (List.mem_of_getElem? hf) hk)
 simp [execOp, hop, resolve, invoke, builtin, hx, h1]
end
end
end Go.Proofs.YtkghejaimhoboaaGreatDoor
