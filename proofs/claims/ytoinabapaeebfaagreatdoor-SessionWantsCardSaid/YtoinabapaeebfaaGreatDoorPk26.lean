/- Contracts of package session (part 1): where a session lies; none, Clean, IsOn, Heard, Off, Client. · Contracts of package session (part 2): none, IsOn, Clean, Off, Heard, On without a Will. · Floats that stand for whole numbers of quarters: sums, products and comparisons of these are exact. No program in sight. -/
import Derived.Test.YtoinabapaeebfaaGreatDoorPk25
import Derived.Test.YtoinabapaeebfaaGreatDoorPk01
import Derived.Laws.FloatArith
import Derived.WalkLawsBesides
set_option linter.unusedSimpArgs false
set_option linter.unusedVariables false
namespace Go.Proofs.YtoinabapaeebfaaGreatDoor
open Go.RowKit Go.Shelf

theorem wrote_more {M M' : List Nat} {w w' : World} (h : Wrote M w w') (hs : ∀ x, x ∈ M → x ∈ M') : Wrote M' w w' := ⟨h.os, h.tape, h.output, h.size, fun i hi hm => h.block i hi (fun hx => hm (hs i hx))⟩

structure WillV where
  topic : List UInt8
  body : List UInt8
  qos : Int
  retain : Bool
def WillV.vals (v : WillV) : Array Value := #[.string ⟨v.topic.toArray⟩, .string ⟨v.body.toArray⟩, .int .i64 v.qos, .bool v.retain]
def noWill : WillV := ⟨[], [], 0, false⟩

/-- A session, as the document has it. -/
structure XS where
  most : Int
  subs : Int
  o : OS
  ids : List Nat
  wants : WL
  clean : Bool
  on : Bool
  keep : Int
  heard : Int
  will : Option WillV

structure XLay where
  p : Nat
  o : Lay
  ib : Nat
  sb : Nat
  m : Nat
  wv : Option Nat
  W : Nat → Nat
def XLay.own (S : XLay) : List Nat := S.p :: S.ib :: S.sb :: S.m :: S.wv.toList
def XLay.foot (S : XLay) : List Nat := S.own ++ S.o.foot
def ptrO (b : Option Nat) : Value := .pointer (b.map fun b => ⟨b, 0, none⟩)
def XLay.cells (S : XLay) (x : XS) : Array Value := #[.pointer (some ⟨S.o.p, 0, none⟩), .int .i64 x.o.window, .int .i64 x.o.room, .int .i64 x.most, .int .i64 x.subs, .pointer (some ⟨S.ib, 0, none⟩), .map (some S.m), .bool x.clean, .bool x.on, .int .i64 x.keep, .int .i64 x.heard, ptrO S.wv]

def WillAt (w : World) : Option Nat → Option WillV → Prop
  | none, none => True
  | some b, some v => Blk w b v.vals 67
  | _, _ => False
theorem WillAt.keep {w w' : World} {b : Option Nat} {v : Option WillV} (h : WillAt w b v) (hk : ∀ x ∈ b.toList, w'.heap[x]? = w.heap[x]?) : WillAt w' b v := by
  cases b <;> cases v <;> simp only [WillAt] at h ⊢
  exact Blk.keep h (hk _ (by simp))
theorem WillAt.lt {w : World} {b : Option Nat} {v : Option WillV} (h : WillAt w b v) : ∀ x ∈ b.toList, x < w.heap.size := by
  cases b <;> cases v <;> simp only [WillAt] at h <;> simp
  exact Blk.lt h

structure XS.OK (x : XS) : Prop where
  most : 1 ≤ x.most ∧ x.most ≤ 1000
  subs : 1 ≤ x.subs ∧ x.subs ≤ 100
  ids : ∀ i ∈ x.ids, 1 ≤ i ∧ i ≤ 65535
  under : (x.ids.length : Int) ≤ x.most
  wants : (x.wants.length : Int) ≤ x.subs
  keep : 0 ≤ x.keep ∧ x.keep ≤ 65535

structure XB (w : World) (B : Nat) (S : XLay) (x : XS) : Prop where
  box : Blk w S.p (S.cells x) 132
  ob : OB w B S.o x.o [] []
  nil : S.o.vp = .slice none 0 0 ∧ S.o.vc = .slice none 0 0
  inb : Inb w S.ib S.sb x.most S.W
  set : SetIs S.W x.ids
  wm : WM w S.m x.wants
  will : WillAt w S.wv x.will
  apart : ∀ b ∈ S.own, b ∉ S.o.foot
  nodup : S.own.Nodup
  gg : 1 ∉ S.own
  ok : x.OK

theorem XB.lt {w : World} {B : Nat} {S : XLay} {x : XS} (h : XB w B S x) : ∀ b ∈ S.foot, b < w.heap.size := by
  intro b hb
  simp only [XLay.foot, XLay.own, List.cons_append, List.mem_cons, List.mem_append] at hb
  rcases hb with rfl | rfl | rfl | rfl | hb | hb
  · exact h.box.lt
  · exact h.inb.box.lt
  · exact h.inb.set.lt
  · exact h.wm.lt
  · exact h.will.lt b hb
  · exact h.ob.lt b hb
theorem XB.out {w w' : World} {B : Nat} {S : XLay} {x : XS} (h : XB w B S x) {M : List Nat} (hw : Wrote M w w') (hM : ∀ b ∈ M, b ∉ S.foot) (hg : 1 ∉ M) : XB w' B S x := by
  have k : ∀ b ∈ S.own, w'.heap[b]? = w.heap[b]? := fun b hb => hw.block b (h.lt b (List.mem_append_left _ hb)) (fun hm => hM b hm (List.mem_append_left _ hb))
  refine ⟨h.box.keep (k _ (by simp [XLay.own])), h.ob.out hw (fun b hb hf => hM b hb (List.mem_append_right _ hf)) hg, h.nil, ⟨h.inb.box.keep (k _ (by simp [XLay.own])), h.inb.set.keep (k _ (by simp [XLay.own]))⟩, h.set, h.wm.keep (k _ (by simp [XLay.own])), h.will.keep (fun b hb => k b ?_), h.apart, h.nodup, h.gg, h.ok⟩
  simp only [XLay.own, List.mem_cons]
  exact .inr (.inr (.inr (.inr hb)))
theorem XB.below {w w' : World} {B : Nat} {S : XLay} {x : XS} (h : XB w B S x) (hb : Below w.heap.size w w') : XB w' B S x := h.out (Wrote.of_below (M := []) hb) (by simp) (by simp)
theorem XB.alloc {w : World} {B : Nat} {S : XLay} {x : XS} (h : XB w B S x) (o : Obj) : XB (w.alloc o) B S x := h.below ((Below.refl _ _).alloc (Nat.le_refl _) o)
theorem XB.drew {w : World} {B : Nat} {S : XLay} {x : XS} (h : XB w B S x) : XB w.drew B S x := h.below (Below.refl _ w).drew
end Go.Proofs.YtoinabapaeebfaaGreatDoor
namespace Go.Proofs.YtoinabapaeebfaaGreatDoor
open Go.RowKit Go.Shelf

set_option maxRecDepth 100000 in
set_option maxHeartbeats 400000 in
theorem ses_none {w : World} {B : Nat} {S : XLay} {x : XS} (h : XB w B S x) :
    Calls Tryz.prog 60 #[.pointer (some ⟨S.p, 0, none⟩)] w fun e w' => e = .returned (.bool false) ∧ w = w' := by
  have k0 : w.cell? ⟨S.p, 0, none⟩ = some (.pointer (some ⟨S.o.p, 0, none⟩)) := h.box.cell 0
  go_enter Tryz.func60, Tryz.ntmps60
  go_wp2
  go_ret
  exact ⟨rfl, rfl⟩

set_option maxRecDepth 100000 in
set_option maxHeartbeats 400000 in
theorem ses_IsOn {w : World} {B : Nat} {S : XLay} {x : XS} (h : XB w B S x) :
    Calls Tryz.prog 38 #[.pointer (some ⟨S.p, 0, none⟩)] w fun e w' => e = .returned (.bool x.on) ∧ w = w' := by
  have k0 : w.cell? ⟨S.p, 8, none⟩ = some (.bool x.on) := h.box.cell 8
  have CN := hid (ses_none h)
  go_enter Tryz.func38, Tryz.ntmps38
  go_wp2_with (go_at_call 60; refine CN.out.mono ?_; rintro e w1 ⟨rfl, rfl⟩)
  go_ret
  exact ⟨rfl, rfl⟩

set_option maxRecDepth 100000 in
set_option maxHeartbeats 400000 in
theorem ses_Clean {w : World} {B : Nat} {S : XLay} {x : XS} (h : XB w B S x) :
    Calls Tryz.prog 39 #[.pointer (some ⟨S.p, 0, none⟩)] w fun e w' => e = .returned (.bool x.clean) ∧ w = w' := by
  have k0 : w.cell? ⟨S.p, 7, none⟩ = some (.bool x.clean) := h.box.cell 7
  have CN := hid (ses_none h)
  go_enter Tryz.func39, Tryz.ntmps39
  go_wp2_with (go_at_call 60; refine CN.out.mono ?_; rintro e w1 ⟨rfl, rfl⟩)
  go_ret
  exact ⟨rfl, rfl⟩

/-- Other words in its own block, another Will. -/
theorem XB.rebox {w w' : World} {B : Nat} {S : XLay} {x : XS} (h : XB w B S x) (wv : Option Nat) (clean on : Bool) (keep heard : Int) (will : Option WillV) (hk : 0 ≤ keep ∧ keep ≤ 65535)
    (hw : Wrote [S.p] w w') (hbox : Blk w' S.p (XLay.cells { S with wv := wv } { x with clean := clean, on := on, keep := keep, heard := heard, will := will }) 132)
    (hwill : WillAt w' wv will) (hwv : ∀ b ∈ wv.toList, b ∈ S.wv.toList ∨ w.heap.size ≤ b) :
    XB w' B { S with wv := wv } { x with clean := clean, on := on, keep := keep, heard := heard, will := will } := by
  have hgl := h.ob.tz.lt
  have hgg := h.gg
  have nd := h.nodup
  have hlt := h.lt
  have hap := h.apart
  have hol := h.ob.lt
  simp only [XLay.own, List.mem_cons, not_or, List.nodup_cons] at hgg nd hap
  have l1 := h.box.lt; have l2 := h.inb.box.lt; have l3 := h.inb.set.lt; have l4 := h.wm.lt
  have m1 := nd.1; have m2 := nd.2.1; have m3 := nd.2.2.1; have m4 := nd.2.2.2.1
  have ho : S.p ∉ S.o.foot := hap _ (.inl rfl)
  refine ⟨hbox, h.ob.out hw (by simpa using ho) (by simpa using hgg.1), h.nil, ⟨h.inb.box.wrote hw (by simp; exact fun e => m1.1 e.symm), h.inb.set.wrote hw (by simp; exact fun e => m1.2.1 e.symm)⟩, h.set, h.wm.wrote hw (by simp; exact fun e => m1.2.2.1 e.symm), hwill, ?_, ?_, ?_, ?_⟩
  · intro b hb hf
    simp only [XLay.own, List.mem_cons] at hb
    rcases hb with hb | hb | hb | hb | hb
    · exact hap b (.inl hb) hf
    · exact hap b (.inr (.inl hb)) hf
    · exact hap b (.inr (.inr (.inl hb))) hf
    · exact hap b (.inr (.inr (.inr (.inl hb)))) hf
    · rcases hwv b hb with h1 | h1
      · exact hap b (.inr (.inr (.inr (.inr h1)))) hf
      · have := hol b hf; omega
  · simp only [XLay.own, List.nodup_cons, List.mem_cons, not_or]
    have n : ∀ c, c < w.heap.size → c ∉ S.wv.toList → c ∉ wv.toList := fun c hc hn hm => (hwv c hm).elim hn (fun hg => by omega)
    exact ⟨⟨m1.1, m1.2.1, m1.2.2.1, n _ l1 m1.2.2.2⟩, ⟨m2.1, m2.2.1, n _ l2 m2.2.2⟩, ⟨m3.1, n _ l3 m3.2⟩, n _ l4 m4, by cases wv <;> simp⟩
  · simp only [XLay.own, List.mem_cons, not_or]
    exact ⟨hgg.1, hgg.2.1, hgg.2.2.1, hgg.2.2.2.1, fun hm => (hwv _ hm).elim hgg.2.2.2.2 (fun hg => by omega)⟩
  · exact ⟨h.ok.most, h.ok.subs, h.ok.ids, h.ok.under, h.ok.wants, hk⟩

set_option maxRecDepth 100000 in
set_option maxHeartbeats 400000 in
theorem ses_Heard {w : World} {B : Nat} {S : XLay} {x : XS} (h : XB w B S x) (now : Int) :
    Calls Tryz.prog 25 #[.pointer (some ⟨S.p, 0, none⟩), .int .i64 now] w fun e w' => e = .returned (.int .i64 (if now < 0 then 2 else 0)) ∧
      XB w' B S { x with heard := if 0 ≤ now ∧ x.on = true then now else x.heard } ∧ Stp S.foot S.foot w w' := by
  obtain ⟨most, subs, o, ids, wants, clean, on, keep, heard, will⟩ := x
  have k0 : w.cell? ⟨S.p, 8, none⟩ = some (.bool on) := h.box.cell 8
  have CN := hid (ses_none h)
  have H := hid h
  have hfz := h.box.frozen 10
  have k10 : w.cell? ⟨S.p, 10, none⟩ = some (.int .i64 heard) := h.box.cell 10
  rcases Int.lt_or_le now 0 with hn | hn
  · have d1 : decide (now < 0) = true := decide_eq_true hn
    go_enter Tryz.func25, Tryz.ntmps25
    go_wp2_with (go_at_call 60; refine CN.out.mono ?_; rintro e w1 ⟨rfl, rfl⟩)
    go_ret
    exact ⟨rfl, H.out, Stp.refl _ _⟩
  · have d1 : decide (now < 0) = false := decide_eq_false (by omega)
    cases on with
    | false =>
      go_enter Tryz.func25, Tryz.ntmps25
      go_wp2_with (go_at_call 60; refine CN.out.mono ?_; rintro e w1 ⟨rfl, rfl⟩)
      go_ret
      exact ⟨rfl, H.out, Stp.refl _ _⟩
    | true =>
      go_enter Tryz.func25, Tryz.ntmps25
      go_wp2_with (go_at_call 60; refine CN.out.mono ?_; rintro e w1 ⟨rfl, rfl⟩)
      go_ret
      have hw : Wrote [S.p] w (w.setCell ⟨S.p, 10, none⟩ (.int .i64 now)) := Wrote.setCell _ _ (by simp) _
      refine ⟨rfl, ?_, ⟨wrote_more hw (by simp [XLay.foot, XLay.own]), fun _ h => .inl h⟩⟩
      exact H.out.rebox S.wv clean true keep now will H.out.ok.keep hw (H.out.box.set 10 _) (H.out.will.keep fun b hb => hw.block b (H.out.will.lt b hb) (by
        have := H.out.nodup
        simp only [XLay.own, List.nodup_cons, List.mem_cons, not_or] at this
        simp only [List.mem_singleton]
        rintro rfl
        exact this.1.2.2.2 hb)) (fun b hb => .inl hb)
end Go.Proofs.YtoinabapaeebfaaGreatDoor
namespace Go.Proofs.YtoinabapaeebfaaGreatDoor
open Ieee

/-- The word stands for v quarters. -/
def Val (b : Nat) (v : Nat) : Prop := ∃ (m : Nat) (e : Int), double.read b = .number false m e ∧ -1074 ≤ e ∧ m * 2 ^ (e + 1074).toNat = v * 2 ^ 1072

theorem double_least : double.leastPlace = -1074 := by decide
theorem double_binade : double.binade = 2 ^ 52 := rfl
theorem double_inf : double.infRung = 2047 * 2 ^ 52 := by decide
theorem double_sw : double.signWeight = 2 ^ 63 := by decide

theorem word_false (r : Nat) : double.word false r = r := rfl

theorem read_rung (r : Nat) (h : r < 2047 * 2 ^ 52) : double.read r = if r < 2 ^ 52 then .number false r (-1074) else .number false (2 ^ 52 + r % 2 ^ 52) (-1074 + (r / 2 ^ 52 - 1 : Nat)) := by
  unfold Format.read
  rw [double_least, double_binade, double_inf, double_sw]
  have h1 : r / 2 ^ 63 = 0 := Nat.div_eq_of_lt (by omega)
  have h2 : r % 2 ^ 63 = r := Nat.mod_eq_of_lt (by omega)
  simp only [h1, h2, if_pos h]
  rfl

theorem cut_exact (neg : Bool) (k drop : Nat) (hk : 0 < k) : Toward.even.cut neg (k * 2 ^ drop) drop = k := by
  have hp : 0 < 2 ^ drop := Nat.two_pow_pos _
  have hl : drop ≤ (k * 2 ^ drop).log2 := by
    rw [Nat.le_log2 (Nat.ne_of_gt (Nat.mul_pos hk hp))]
    exact Nat.le_mul_of_pos_left _ hk
  unfold Toward.cut
  have hm : min drop ((k * 2 ^ drop).log2 + 2) = drop := by omega
  simp only [hm, Nat.one_shiftLeft, Nat.mul_div_cancel _ hp, Nat.mul_mod_left]
  have h0 : (2 ^ drop == 2 * 0) = false := by simp
  simp

theorem pow_between {a b x : Nat} (h1 : 2 ^ a ≤ x) (h2 : x < 2 ^ (b + 1)) : a ≤ b := by
  have := Nat.lt_of_le_of_lt h1 h2
  have := (Nat.pow_lt_pow_iff_right (a := 2) (by decide)).1 this
  omega

theorem pow_split {i j k : Nat} (h : i = j + k) : (2 : Nat) ^ i = 2 ^ j * 2 ^ k := by rw [h, Nat.pow_add]

theorem nearest_exact (m : Nat) (e : Int) (v K : Nat) (hK : 1074 ≤ K) (he : -(K : Int) ≤ e) (hv : m * 2 ^ (e + K).toNat = v * 2 ^ (K - 2)) (hlt : v < 2 ^ 53) : Val (double.nearest false m e) v := by
  by_cases hm : m = 0
  · subst hm
    have h0 : v = 0 := by
      rcases Nat.eq_zero_or_pos v with h | h
      · exact h
      · have := Nat.mul_pos h (Nat.two_pow_pos (K - 2)); omega
    subst h0
    refine ⟨0, -1074, ?_, Int.le_refl _, by generalize (2 : Nat) ^ 1072 = c; rw [Nat.zero_mul, Nat.zero_mul]⟩
    unfold Format.nearest
    rw [if_pos rfl]
    show double.read 0 = _
    rw [read_rung 0 (by decide)]
    rfl
  have hm0 : 0 < m := Nat.pos_of_ne_zero hm
  have hv0 : 0 < v := by
    rcases Nat.eq_zero_or_pos v with h | h
    · subst h
      have := Nat.mul_pos hm0 (Nat.two_pow_pos (e + K).toNat)
      omega
    · exact h
  obtain ⟨L, hL⟩ : ∃ L, m.log2 = L := ⟨_, rfl⟩
  obtain ⟨V, hV⟩ : ∃ V, v.log2 = V := ⟨_, rfl⟩
  have l1 : 2 ^ L ≤ m := by rw [← hL]; exact Nat.log2_self_le hm
  have l2 : m < 2 ^ (L + 1) := by rw [← hL]; exact Nat.lt_log2_self
  have v1 : 2 ^ V ≤ v := by rw [← hV]; exact Nat.log2_self_le (Nat.ne_of_gt hv0)
  have v2 : v < 2 ^ (V + 1) := by rw [← hV]; exact Nat.lt_log2_self
  obtain ⟨A, hA⟩ : ∃ A, (e + K).toNat = A := ⟨_, rfl⟩
  rw [hA] at hv
  have pa := Nat.two_pow_pos A
  have pk := Nat.two_pow_pos (K - 2)
  have e1 : L + A ≤ V + (K - 2) := by
    refine pow_between (x := m * 2 ^ A) ?_ ?_
    · rw [Nat.pow_add]; exact Nat.mul_le_mul_right _ l1
    · rw [hv, show V + (K - 2) + 1 = (V + 1) + (K - 2) by omega, Nat.pow_add]; exact Nat.mul_lt_mul_of_pos_right v2 pk
  have e2 : V + (K - 2) ≤ L + A := by
    refine pow_between (x := m * 2 ^ A) ?_ ?_
    · rw [hv, Nat.pow_add]; exact Nat.mul_le_mul_right _ v1
    · rw [show L + A + 1 = (L + 1) + A by omega, Nat.pow_add]; exact Nat.mul_lt_mul_of_pos_right l2 pa
  have hV52 : V ≤ 52 := pow_between v1 hlt
  have hAe : (A : Int) = e + K := by omega
  have hlast : max (e + (L : Int) - 52) (-1074) = (V : Int) - 54 := by omega
  have hk1 : 2 ^ 52 ≤ v * 2 ^ (52 - V) := by
    rw [pow_split (show 52 = V + (52 - V) by omega)]; exact Nat.mul_le_mul_right _ v1
  have hk2 : v * 2 ^ (52 - V) < 2 ^ 53 := by
    rw [pow_split (show 53 = (V + 1) + (52 - V) by omega)]; exact Nat.mul_lt_mul_of_pos_right v2 (Nat.two_pow_pos _)
  obtain ⟨kp, hkp⟩ : ∃ k, v * 2 ^ (52 - V) = k := ⟨_, rfl⟩
  rw [hkp] at hk1 hk2
  have hcut : Toward.even.cut false (m <<< (e - ((V : Int) - 54)).toNat) (((V : Int) - 54) - e).toNat = kp := by
    rw [Nat.shiftLeft_eq]
    rcases Int.le_total ((V : Int) - 54) e with h | h
    · rw [show (((V : Int) - 54) - e).toNat = 0 by omega]
      obtain ⟨D, hD⟩ : ∃ D, (e - ((V : Int) - 54)).toNat = D := ⟨_, rfl⟩
      rw [hD]
      have hq : m * 2 ^ D = kp := by
        rw [← hkp]
        rw [pow_split (show A = D + (V + K - 54) by omega), pow_split (show K - 2 = (52 - V) + (V + K - 54) by omega), ← Nat.mul_assoc, ← Nat.mul_assoc] at hv
        exact Nat.eq_of_mul_eq_mul_right (Nat.two_pow_pos _) hv
      rw [hq]
      have := cut_exact false kp 0 (by omega)
      simpa using this
    · rw [show (e - ((V : Int) - 54)).toNat = 0 by omega]
      obtain ⟨D, hD⟩ : ∃ D, (((V : Int) - 54) - e).toNat = D := ⟨_, rfl⟩
      rw [hD]
      have hq : m = kp * 2 ^ D := by
        rw [← hkp]
        rw [pow_split (show K - 2 = ((52 - V) + D) + A by omega), ← Nat.mul_assoc, Nat.pow_add, ← Nat.mul_assoc] at hv
        exact Nat.eq_of_mul_eq_mul_right pa hv
      rw [show m * 2 ^ 0 = kp * 2 ^ D by rw [← hq]; simp]
      exact cut_exact false kp D (by omega)
  have hn : double.nearest false m e = (V + 1020) * 2 ^ 52 + kp := by
    unfold Format.nearest
    rw [if_neg hm, double_least, double_inf, double_binade, hL]
    simp only [show double.fractionBits = 52 from rfl]
    rw [show max (e + (L : Int) - ((52 : Nat) : Int)) (-1074) = (V : Int) - 54 from hlast]
    rw [hcut, show (((V : Int) - 54) - -1074).toNat = V + 1020 by omega]
    rw [word_false]
    exact Nat.min_eq_left (by omega)
  rw [hn]
  refine ⟨kp, (V : Int) - 54, ?_, by omega, ?_⟩
  · rw [read_rung _ (by omega), if_neg (by omega)]
    have a1 : ((V + 1020) * 2 ^ 52 + kp) % 2 ^ 52 = kp - 2 ^ 52 := by omega
    have a2 : ((V + 1020) * 2 ^ 52 + kp) / 2 ^ 52 = V + 1021 := by omega
    rw [a1, a2]
    rw [show 2 ^ 52 + (kp - 2 ^ 52) = kp by omega, show (-1074 + ((V + 1021 - 1 : Nat) : Int)) = (V : Int) - 54 by omega]
  · obtain ⟨E, hE⟩ : ∃ E : Nat, 1072 = E := ⟨_, rfl⟩
    rw [hE]
    have h72 : (2 : Nat) ^ E = 2 ^ (52 - V) * 2 ^ ((V : Int) - 54 + 1074).toNat := pow_split (by omega)
    generalize (2 : Nat) ^ E = c at h72 ⊢
    generalize (2 : Nat) ^ ((V : Int) - 54 + 1074).toNat = x at h72 ⊢
    calc kp * x = v * 2 ^ (52 - V) * x := by rw [hkp]
      _ = v * (2 ^ (52 - V) * x) := Nat.mul_assoc _ _ _
      _ = v * c := by rw [h72]

theorem val_int (n : Int) (h0 : 0 ≤ n) (h : n < 2 ^ 51) : Val (floatOfInt .f64 n) (4 * n.toNat) := by
  unfold floatOfInt FloatKind.nearest FloatKind.encode FloatKind.format Format.write
  simp only
  rw [show decide (n < 0) = false from decide_eq_false (by omega)]
  refine nearest_exact _ 0 _ 1074 (Nat.le_refl _) (by omega) ?_ (by omega)
  obtain ⟨E, hE⟩ : ∃ E : Nat, 1072 = E := ⟨_, rfl⟩
  rw [show n.natAbs = n.toNat by omega, show ((0 : Int) + (1074 : Nat)).toNat = 1072 + 2 from rfl, show 1074 - 2 = 1072 from rfl, Nat.pow_add 2 1072 2, hE]
  generalize 2 ^ E = p
  rw [Nat.mul_comm 4, Nat.mul_assoc, Nat.mul_comm p]

theorem shift_val {m v : Nat} {e base : Int} (hb : base ≤ e) (h1 : -1074 ≤ base) (h : m * 2 ^ (e + 1074).toNat = v * 2 ^ 1072) : (m <<< (e - base).toNat) * 2 ^ (base + 1074).toNat = v * 2 ^ 1072 := by
  rw [Nat.shiftLeft_eq, Nat.mul_assoc, ← Nat.pow_add, ← h]
  congr 2
  omega

theorem val_add {a b x y : Nat} (ha : Val a x) (hb : Val b y) (hlt : x + y < 2 ^ 53) : ∃ r, floatBits .add .f64 a b = some r ∧ Val r (x + y) := by
  obtain ⟨m, e, r1, l1, h1⟩ := ha
  obtain ⟨n, f, r2, l2, h2⟩ := hb
  refine ⟨double.nearest false (m <<< (e - min e f).toNat + n <<< (f - min e f).toNat) (min e f), ?_, nearest_exact _ _ _ 1074 (Nat.le_refl _) (by omega) ?_ hlt⟩
  · show double.add a b = _
    unfold Format.add Datum.sum
    rw [r1, r2]
    simp only [Option.map_some, Option.some.injEq, Datum.sum, signed, Bool.false_eq_true, if_false]
    unfold Format.write
    simp only
    generalize (m <<< (e - min e f).toNat) = p
    generalize (n <<< (f - min e f).toNat) = q
    rw [show ((p : Int) + (q : Int)).natAbs = p + q by omega]
    congr 1
    split
    · rfl
    · exact decide_eq_false (by omega)
  · have e1 := shift_val (base := min e f) (by omega) (by omega) h1
    have e2 := shift_val (base := min e f) (by omega) (by omega) h2
    obtain ⟨E, hE⟩ : ∃ E : Nat, 1072 = E := ⟨_, rfl⟩
    rw [hE] at e1 e2
    rw [show 1074 - 2 = E by omega, show ((min e f) + ((1074 : Nat) : Int)).toNat = (min e f + 1074).toNat from rfl, Nat.add_mul, e1, e2]
    generalize (2 : Nat) ^ E = c
    exact (Nat.add_mul _ _ _).symm

theorem val_mul {a b x y v : Nat} (ha : Val a x) (hb : Val b y) (hxy : x * y = 4 * v) (hlt : v < 2 ^ 53) : ∃ r, floatBits .mul .f64 a b = some r ∧ Val r v := by
  obtain ⟨m, e, r1, l1, h1⟩ := ha
  obtain ⟨n, f, r2, l2, h2⟩ := hb
  refine ⟨double.nearest false (m * n) (e + f), ?_, nearest_exact _ _ _ 2148 (by decide) (by omega) ?_ hlt⟩
  · show double.mul a b = _
    unfold Format.mul Datum.product
    rw [r1, r2]
    rfl
  · have hp : m * 2 ^ (e + 1074).toNat * (n * 2 ^ (f + 1074).toNat) = x * 2 ^ 1072 * (y * 2 ^ 1072) := by rw [h1, h2]
    rw [show (e + f + ((2148 : Nat) : Int)).toNat = (e + 1074).toNat + (f + 1074).toNat by omega, Nat.pow_add]
    obtain ⟨E, hE⟩ : ∃ E : Nat, 1072 = E := ⟨_, rfl⟩
    have h46 : 2148 - 2 = E + E + 2 := by omega
    have hq : (2 : Nat) ^ (2148 - 2) = 2 ^ E * 2 ^ E * 4 := by rw [h46, Nat.pow_add, Nat.pow_add]
    rw [hE] at hp
    rw [hq]
    generalize (2 : Nat) ^ E = p at *
    generalize (2 : Nat) ^ (e + 1074).toNat = u at *
    generalize (2 : Nat) ^ (f + 1074).toNat = t at *
    calc m * n * (u * t) = m * u * (n * t) := Nat.mul_mul_mul_comm m n u t
      _ = x * p * (y * p) := hp
      _ = x * y * (p * p) := Nat.mul_mul_mul_comm x p y p
      _ = v * (p * p * 4) := by rw [hxy, Nat.mul_comm 4 v, Nat.mul_assoc, Nat.mul_comm 4]

theorem val_order {a b x y : Nat} (ha : Val a x) (hb : Val b y) : double.order a b = some (compare x y) := by
  obtain ⟨m, e, r1, l1, h1⟩ := ha
  obtain ⟨n, f, r2, l2, h2⟩ := hb
  have e1 := shift_val (base := min e f) (by omega) (by omega) h1
  have e2 := shift_val (base := min e f) (by omega) (by omega) h2
  unfold Format.order Datum.order
  rw [r1, r2]
  simp only [signed, Bool.false_eq_true, if_false]
  generalize (m <<< (e - min e f).toNat) = p at *
  generalize (n <<< (f - min e f).toNat) = q at *
  generalize (min e f + 1074).toNat = k at *
  congr 1
  have pk : 0 < 2 ^ k := Nat.two_pow_pos _
  obtain ⟨E, hE⟩ : ∃ E : Nat, 1072 = E := ⟨_, rfl⟩
  rw [hE] at e1 e2
  have pc : (0 : Nat) < 2 ^ E := Nat.two_pow_pos E
  generalize (2 : Nat) ^ k = u at *
  generalize (2 : Nat) ^ E = c at *
  have lt_iff : p < q ↔ x < y := by
    rw [← Nat.mul_lt_mul_right pk, e1, e2, Nat.mul_lt_mul_right pc]
  have eq_iff : p = q ↔ x = y := by
    rw [← Nat.mul_left_inj (Nat.ne_of_gt pk), e1, e2, Nat.mul_left_inj (Nat.ne_of_gt pc)]
  have c1 : compare (p : Int) (q : Int) = if (p : Int) < q then .lt else if (p : Int) = q then .eq else .gt := rfl
  have c2 : compare x y = if x < y then .lt else if x = y then .eq else .gt := rfl
  rw [c1, c2]
  have i1 : (p : Int) < q ↔ x < y := by rw [← lt_iff]; omega
  have i2 : (p : Int) = q ↔ x = y := by rw [← eq_iff]; omega
  simp only [i1, i2]

/-- The bits of infinity. -/
def infB : Nat := 0x7FF0000000000000
theorem read_inf : double.read infB = .infinity false := by decide
theorem order_inf {a x : Nat} (ha : Val a x) : double.order a infB = some .lt := by
  obtain ⟨m, e, r1, _, _⟩ := ha
  unfold Format.order Datum.order
  rw [r1, read_inf]
  rfl
theorem val_half3 : Val 0x3FF8000000000000 6 := ⟨2 ^ 52 + 2 ^ 51, -52, by decide, by decide, by
  obtain ⟨E, hE⟩ : ∃ E : Nat, 1022 = E := ⟨_, rfl⟩
  rw [show ((-52 : Int) + 1074).toNat = 1022 from rfl, show (1072 : Nat) = 50 + 1022 from rfl, Nat.pow_add 2 50 1022, hE]
  generalize (2 : Nat) ^ E = p
  show _ = 6 * (2 ^ 50 * p)
  rw [← Nat.mul_assoc]⟩
theorem val_two : Val 0x4000000000000000 8 := ⟨2 ^ 52, -51, by decide, by decide, by
  obtain ⟨E, hE⟩ : ∃ E : Nat, 1023 = E := ⟨_, rfl⟩
  rw [show ((-51 : Int) + 1074).toNat = 1023 from rfl, show (1072 : Nat) = 49 + 1023 from rfl, Nat.pow_add 2 49 1023, hE]
  generalize (2 : Nat) ^ E = p
  show _ = 8 * (2 ^ 49 * p)
  rw [← Nat.mul_assoc]⟩
theorem order_inf_big : double.order infB 0x7E37E43C8800759C = some .gt := by decide
end Go.Proofs.YtoinabapaeebfaaGreatDoor
