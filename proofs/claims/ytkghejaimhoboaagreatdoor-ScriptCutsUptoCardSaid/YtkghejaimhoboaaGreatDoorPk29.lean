/- Parts of the proof of ScriptCuts: contracts of functions that it reaches, and plain lemmas. No condition of their own. -/
import Derived.Test.YtkghejaimhoboaaGreatDoorPk28
import Derived.Test.YtkghejaimhoboaaGreatDoorPk25
import Derived.Test.YtkghejaimhoboaaGreatDoorPk16
import Derived.Test.YtkghejaimhoboaaGreatDoorPk06
import Derived.Test.YtkghejaimhoboaaGreatDoorPk11
import Derived.Test.YtkghejaimhoboaaGreatDoorPk07
import Derived.Deep.CutRange
set_option linter.unusedSimpArgs false
set_option linter.unusedVariables false
set_option maxRecDepth 100000
set_option maxHeartbeats 8000000
namespace Go.Proofs.YtkghejaimhoboaaGreatDoor
open Go.RowKit Go.Shelf
section
attribute [local go_sem] Oper.semAt_some
theorem rAll_rMany {α : Type} (take : List UInt8 -> Option (α × List UInt8)) (ht : ∀ l x r, take l = some (x, r) -> r.length < l.length) : ∀ (j n : Nat) (l r : List UInt8) (xs : List α), rMany take j l = some (xs, r) -> l.length <= n ->
  (r = [] -> rAll take n l = some xs) /\ (r ≠ [] -> take r = none -> rAll take n l = none)
 | 0, n, l, r, xs, h, hn => by
  cases h
  cases n with
  | zero =>
   have : l = [] := List.length_eq_zero_iff.1 (by omega)
   subst this;exact ⟨fun _ => rfl, fun h => absurd rfl h⟩
  | succ n =>
   unfold rAll
   refine ⟨fun h => by rw [if_pos h], fun h hr => by rw [if_neg h, hr]; rfl⟩
 | j + 1, n, l, r, xs, h, hn => by
  unfold rMany at h
  cases h1 : take l with
  | none => rw [h1] at h; cases h
  | some x =>
   rw [h1, Option.bind_some] at h
   cases h2 : rMany take j x.2 with
   | none => rw [h2] at h; cases h
   | some y =>
    rw [h2, Option.bind_some] at h
    cases h
    have hlt := ht l x.1 x.2 h1
    have hne : l ≠ [] := by rintro rfl; simp at hlt
    cases n with
    | zero => have := List.length_pos_iff.2 hne; omega
    | succ n =>
     obtain ⟨a, b⟩ := rAll_rMany take ht j n x.2 y.2 y.1 h2 (by omega)
     unfold rAll
     rw [if_neg hne, h1, Option.bind_some]
     exact ⟨fun hr => by (rw [a hr]; rfl), fun hr hn => by (rw [b hr hn]; rfl)⟩
theorem rNum_len {k : Nat} {l r : List UInt8} {n : Nat} (h : rNum k l = some (n, r)) : l.length = k + r.length := by
 unfold rNum at h
 split at h
 ·cases h
 ·cases h
  rw [List.length_drop]; omega
theorem rTurn_len {C : PkCode} {u : Bool} {l r : List UInt8} {t : Tn} (h : rTurn C u l = some (t, r)) : r.length + 3 <= l.length := by
 rw [rTurn_some C h, List.length_append]
 unfold turnB
 rw [List.length_append, List.length_append, numB_len, numB_len]
 omega
structure LsN {α : Type} (f : α -> List Value) (size : Nat) (w : World) (h : Hd) (xs : List α) (M : List Nat) : Prop where
 at' : LsAt f size w h.a h.n h.c xs
 off : xs ≠ [] -> ∀ y, h.a = some y -> y.block ∉ M
theorem LsN.step {α : Type} {f : α -> List Value} {size : Nat} {w w' : World} {h : Hd} {xs : List α} {M M' M2 : List Nat} (k : LsN f size w h xs M) (hw : Wrote M' w w') (h1 : ∀ b ∈ M', b ∈ M \/ w.heap.size <= b) (h2 : ∀ b ∈ M2, b ∈ M \/ w.heap.size <= b) : LsN f size w' h xs M2 := by
 have hlt : xs ≠ [] -> ∀ y, h.a = some y -> y.block < w.heap.size := fun hne y hy => by
  obtain ⟨x, hx⟩ : ∃ x, xs[0]? = some x := ⟨_, List.getElem?_eq_getElem (List.length_pos_iff.2 hne)⟩
  obtain ⟨g, off, e, hg, -⟩ := k.at'.at' 0 x hx
  rw [hy] at e
  cases e
  exact hg
 refine ⟨⟨k.at'.len, k.at'.le, k.at'.max, fun i x hx => ?_⟩, fun hne y hy hb => ?_⟩
 ·have hne : xs ≠ [] := by rintro rfl; simp at hx
  obtain ⟨g, off, ha, hg, hr⟩ := k.at'.at' i x hx
  refine ⟨g, off, ha, Nat.lt_of_lt_of_le hg hw.size, fun j v hj => ?_⟩
  rw [<- hr j v hj]
  unfold World.cell?
  rw [hw.block g hg (fun hm => ?_)]
  rcases h1 g hm with h3 | h3
  ·exact k.off hne _ ha h3
  ·omega
 ·rcases h2 _ hb with h3 | h3
  ·exact k.off hne _ hy h3
  ·have := hlt hne y hy; omega
theorem LsN.nil {α : Type} {f : α -> List Value} {size : Nat} (w : World) (M : List Nat) : LsN f size w hdZ ([] : List α) M := ⟨LsAt.nil w, fun h => absurd rfl h⟩
structure InN (w : World) (x : TnC) (M : List Nat) : Prop where
 lw : LsN WantV.cl 2 w x.h.w x.t.pk.wants M
 lc : LsN iCl 1 w x.h.c x.t.pk.codes M
 lf : LsN sCl 1 w x.h.f x.t.pk.filters M
 lp : LsN iCl 1 w x.hp x.t.picks M
theorem InN.inn {w : World} {x : TnC} {M : List Nat} (h : InN w x M) : x.t.In w x.h x.hp := ⟨⟨h.lw.at', h.lc.at', h.lf.at'⟩, h.lp.at'⟩
theorem InN.step {w w' : World} {x : TnC} {M M' M2 : List Nat} (k : InN w x M) (hw : Wrote M' w w') (h1 : ∀ b ∈ M', b ∈ M \/ w.heap.size <= b) (h2 : ∀ b ∈ M2, b ∈ M \/ w.heap.size <= b) : InN w' x M2 := ⟨k.lw.step hw h1 h2, k.lc.step hw h1 h2, k.lf.step hw h1 h2, k.lp.step hw h1 h2⟩
def tn0 (k cn : Int) : Tn := { zTn k with conn := cn }
structure ReadP (C : PkCode) (B p tb : Nat) (t0 : Tn) (l : List UInt8) (w : World) (e : Ending) (w' : World) : Prop where
 wrote : Wrote [p, tb] w w'
 out : (rPart C false t0 l = none /\ e = .panicked (given 390)) \/ ∃ (y : TnC) (l' : List UInt8), rPart C false t0 l = some (y.t, l') /\ e = .returned (.tuple #[]) /\ Rd w' B p l' /\ Blk w' tb y.cells.toArray 55 /\ ∀ M, (∀ b ∈ M, b < w.heap.size) -> InN w' y M
def ReadDo (C : PkCode) (k : Int) : Prop := ∀ c v, kindG c k = some v -> ∃ f1 c1 f2 c2 f3 c3 f4 c4, v = .agg #[fnV f1 c1, fnV f2 c2, fnV f3 c3, fnV f4 c4] /\ fnC f4 /\
 ∀ W B p l tb cn, Rd W B p l -> Blk W tb ((tn0 k cn).cells h3Z hdZ).toArray 55 -> B <= tb -> Calls Tryz.prog f4 (#[.agg #[.pointer (some ⟨p, 0, none⟩)], .pointer (some ⟨tb, 0, none⟩)] ++ c4) W (ReadP C B p tb (tn0 k cn) l W)
theorem sc_P11 (W : World) (B p rb : Nat) (l : List UInt8) (hR : Rd W B p l) (hb : Blk W rb #[.pointer (some ⟨p, 0, none⟩)] 61) : Calls Tryz.prog 22 #[.pointer (some ⟨rb, 0, none⟩)] W (NumP 2 B p l W) := by
 have CN := hid (sc_number hR 2 (by decide) (by decide))
 go_enter Tryz.func22, Tryz.ntmps22
 go_wp2_with (refine wL 61 rfl rfl hb Tryz.underlying61 ?_)
 refine CN.out.mono ?_
 rintro e w1 (⟨hx, rfl, hw1⟩ | ⟨x, hx, rfl, hR1, hw1⟩)
 ·exact ⟨rfl, .inl ⟨hx, rfl, hw1⟩⟩
 ·have H := hid (show NumP 2 B p l W (.returned (.int .i64 x.1)) w1 from .inr ⟨x, hx, rfl, hR1, hw1⟩)
  clear hx hR1 hw1;go_wp2
  go_ret
  exact H.out
end
section
attribute [local go_sem] Oper.semAt_some
structure AnyP (b : Bool) (w : World) (e : Ending) (w' : World) : Prop where
 out : e = .returned (.bool b) /\ Below w.heap.size w w'
structure IdxP (b : Bool) (w : World) (e : Ending) (w' : World) : Prop where
 out : ∃ z : Int, e = .returned (.int .i64 z) /\ (0 <= z ↔ b = true) /\ Below w.heap.size w w'
theorem any_of {α : Type} {p : α -> Bool} {l : List α} {k : Nat} {x : α} (h : l[k]? = some x) (hp : p x = true) : l.any p = true := List.any_eq_true.2 ⟨x, List.mem_of_getElem? h, hp⟩
theorem any_no {α : Type} {p : α -> Bool} {l : List α} (h : ∀ (j : Nat) x, l[j]? = some x -> p x = false) : l.any p = false := by
 rw [List.any_eq_false]
 intro x hx
 obtain ⟨j, hj, e⟩ := List.getElem_of_mem hx
 rw [h j x (by rw [<- e]; exact List.getElem?_eq_getElem hj)]
 simp
theorem ix_int (g : FuncId) (lb : Array Value) (p : Int -> Bool) {w : World} {a : Option Addr} {n c : Nat} {l : List Int} (h : LsAt iCl 1 w a n c l) (eg : fnC g)
  (hg : ∀ W x, x ∈ l -> Below w.heap.size w W -> Calls Tryz.prog g (#[iVl x] ++ lb) W (AnyP (p x) W)) : Calls Tryz.prog 98 #[.slice a n c, .func (.func g) #[] lb] w (IdxP (l.any p) w) := by
 have hle := h.le
 have hmax := h.max
 unfold maxLen at hmax
 have hn : n <= 9223372036854775807 := by omega
 have HL := hid h.len;have HG := hid hg;have HV := hid h;unfold fnC at eg
 clear hle hmax hg h;go_enter Tryz.func98, Tryz.ntmps98
 go_wp2_with fail
 go_loopw [8] (fun i wr => ∃ k : Nat, i = .int .i64 k /\ k <= n /\ Hid (Below w.heap.size w wr) /\ Hid (∀ j x, j < k -> l[j]? = some x -> p x = false)) (fun i _ => n - (intOf i).toNat)
 case atStart => exact ⟨0, rfl, Nat.zero_le _, hid (Below.refl _ _), hid fun j x hj => absurd hj (Nat.not_lt_zero _)⟩
 case round =>
  obtain ⟨k, rfl, hk, hB, hall⟩ := hrel
  rcases Nat.lt_or_ge k n with hlt | hge
  ·obtain ⟨x, hx⟩ : ∃ x, l[k]? = some x := ⟨_, List.getElem?_eq_getElem (by rw [HL.out]; exact hlt)⟩
   obtain ⟨g1, o1, ha, hr⟩ := HV.out.range hx
   have hc := hr _ hB.out
   have CC := hid (HG.out wr x (List.mem_of_getElem? hx) hB.out)
   subst ha;replace hx := hid hx;clear hr;(have h0 := hc 0 (.int .i64 x) rfl; simp only [Nat.mul_one, Nat.add_zero] at h0; unfold iVl at CC; clear hc)
   go_wp2_with fail
   refine CC.out.mono ?_
   rintro e w1 ⟨rfl, hb1⟩
   have HB1 := hid (hB.out.trans (hb1.mono hB.out.size))
   clear hb1;cases hp : p x with
   | false =>
    replace hp := hid hp;go_wp2_with fail
    go_roundw
    case rel =>
     refine ⟨k + 1, by go_num, by omega, HB1, hid fun j y hj hy => ?_⟩
     by_cases hjk : j = k
     ·subst hjk
      rw [hx.out] at hy
      cases hy
      exact hp.out
     ·exact hall.out j y (by omega) hy
    case measure => simp [intOf]; omega
   | true =>
    have hany := hid (any_of hx.out hp)
    clear hp;go_wp2_with fail
    go_ret
    exact ⟨_, rfl, ⟨fun _ => hany.out, fun _ => by omega⟩, HB1.out⟩
  ·obtain rfl : k = n := by omega
   have hno := hid (any_no (p := p) (l := l) (fun j x hj => hall.out j x (by have := (List.getElem?_eq_some_iff.1 hj).1; have := HL.out; omega) hj))
   go_wp2_with fail
   go_ret
   exact ⟨-1, rfl, ⟨fun h => by omega, fun h => by rw [hno.out] at h; cases h⟩, hB.out⟩
theorem any_int (g : FuncId) (lb : Array Value) (p : Int -> Bool) {w : World} {a : Option Addr} {n c : Nat} {l : List Int} (h : LsAt iCl 1 w a n c l) (eg : fnC g)
  (hg : ∀ W x, x ∈ l -> Below w.heap.size w W -> Calls Tryz.prog g (#[iVl x] ++ lb) W (AnyP (p x) W)) : Calls Tryz.prog 68 #[.slice a n c, .func (.func g) #[] lb] w (AnyP (l.any p) w) := by
 have HG := hid (ix_int g lb p h eg hg)
 clear hg eg h;obtain ⟨b, hb⟩ : ∃ b, l.any p = b := ⟨_, rfl⟩
 rw [hb] at HG ⊢
 clear hb;go_enter Tryz.func68, Tryz.ntmps68
 go_wp2_with fail
 refine HG.out.mono ?_
 rintro e w1 ⟨z, rfl, hz, hb1⟩
 have HB1 := hid hb1;clear hb1;cases b with
 | true =>
  have h0 : 0 <= z := hz.2 rfl
  clear hz;go_wp2_with fail
  go_ret
  exact ⟨by simp [h0], HB1.out⟩
 | false =>
  have h0 : ¬ 0 <= z := fun h => by have := hz.1 h; cases this
  have d0 : decide (0 <= z) = false := decide_eq_false h0
  clear hz;go_wp2_with fail
  go_ret
  exact ⟨by simp [h0], HB1.out⟩
end
section
attribute [local go_sem] Oper.semAt_some
theorem pk_within (n lo hi : Int) (w : World) : Calls Tryz.prog 124 #[.int .i64 n, .int .i64 lo, .int .i64 hi] w fun e w' => e = .returned (.bool (within n lo hi)) /\ w = w' := by
 unfold within
 by_cases h1 : lo <= n
 ·by_cases h2 : n <= hi <;>
  ·go_enter Tryz.func124, Tryz.ntmps124
   go_wp2
   go_ret
   exact ⟨by simp [h1, h2], rfl⟩
 ·go_enter Tryz.func124, Tryz.ntmps124
  go_wp2
  go_ret
  exact ⟨by (simp; omega), rfl⟩
theorem pk_qos (n : Int) (w : World) : Calls Tryz.prog 136 #[.int .i64 n] w fun e w' => e = .returned (.bool (within n 0 2)) /\ w = w' := by
 have CW := hid (pk_within n 0 2 w)
 go_enter Tryz.func136, Tryz.ntmps136
 go_wp2_with fail
 refine CW.out.mono ?_
 rintro e w1 ⟨rfl, rfl⟩
 go_wp2_with fail
 go_ret
 exact ⟨rfl, rfl⟩
theorem checkU_is (s : List UInt8) : (checkU s == 0) = decide (wrongU s = -1) := by
 unfold checkU
 have := wrongU_lo s
 by_cases h : 0 <= wrongU s
 ·rw [if_pos h, decide_eq_false (by omega)]
  rfl
 ·rw [if_neg h, decide_eq_true (by omega)]
  rfl
theorem pk_said (s : List UInt8) (m : Nat) (w : World) (hs : s.length <= 4611686018427387904) (hm : m <= 1000000) : Calls Tryz.prog 199 #[.string ⟨s.toArray⟩, .int .i64 m] w (AnyP (saidN s m) w) := by
 unfold saidN
 have hsz : ByteArray.size ⟨s.toArray⟩ = s.length := by simp [ByteArray.size]
 have hck := checkU_is s
 by_cases h1 : s.length <= m
 ·have CC := hid (utf_Check s w (by omega))
  obtain ⟨n, hn⟩ : ∃ n, s.length = n := ⟨_, rfl⟩
  obtain ⟨b, hb⟩ : ∃ b, decide (wrongU s = -1) = b := ⟨_, rfl⟩
  obtain ⟨z, hz⟩ : ∃ z, checkU s = z := ⟨_, rfl⟩
  obtain ⟨sb, hsb⟩ : ∃ sb : ByteArray, (⟨s.toArray⟩ : ByteArray) = sb := ⟨_, rfl⟩
  rw [hn] at hsz h1 hs ⊢
  rw [hz, hb] at hck
  rw [hsb] at hsz CC ⊢
  rw [hz] at CC
  rw [hb]
  have d : decide ((n : Int) <= m) = true := decide_eq_true (by omega)
  clear hn hb hz hsb;go_enter Tryz.func199, Tryz.ntmps199
  go_wp2_with fail
  refine CC.out.mono ?_
  rintro e w1 ⟨rfl, hb1⟩
  have HB := hid hb1;clear hb1;go_wp2_with fail
  go_ret
  exact ⟨by simp [h1], HB.out⟩
 ·obtain ⟨n, hn⟩ : ∃ n, s.length = n := ⟨_, rfl⟩
  obtain ⟨sb, hsb⟩ : ∃ sb : ByteArray, (⟨s.toArray⟩ : ByteArray) = sb := ⟨_, rfl⟩
  rw [hn] at hsz h1 hs ⊢
  rw [hsb] at hsz ⊢
  have d : decide ((n : Int) <= m) = false := decide_eq_false (by omega)
  clear hn hsb hck;go_enter Tryz.func199, Tryz.ntmps199
  go_wp2_with fail
  go_ret
  exact ⟨by simp [h1], Below.refl _ _⟩
theorem pk_mayEmp (v : Array Value) (w : World) : Calls Tryz.prog 120 #[.agg v] w (AnyP true w) := by
 have hb : Below w.heap.size w (w.alloc (.cells v 52)) := (Below.refl _ _).alloc (Nat.le_refl _) _
 go_enter Tryz.func120, Tryz.ntmps120
 go_wp2_with fail
 go_ret
 exact ⟨rfl, hb⟩
theorem pk_mayAns (v : Array Value) (w : World) : Calls Tryz.prog 212 #[.agg v] w (AnyP true w) := by
 have hb : Below w.heap.size w (w.alloc (.cells v 52)) := (Below.refl _ _).alloc (Nat.le_refl _) _
 go_enter Tryz.func212, Tryz.ntmps212
 go_wp2_with fail
 go_ret
 exact ⟨rfl, hb⟩
theorem pk_mayAck (p : Pk) (h : H3) (W : World) : Calls Tryz.prog 123 #[.agg (p.cells h).toArray] W (AnyP (mayA p) W) := by
 have CW := hid (pk_within p.code 0 5)
 unfold mayA
 obtain ⟨xc, hxc⟩ : ∃ xc, (p.cells h).toArray = xc := ⟨_, rfl⟩
 have hB : Blk (W.alloc (.cells xc 52)) W.heap.size xc 52 := Blk.new _ _ _
 have hb : Below W.heap.size W (W.alloc (.cells xc 52)) := (Below.refl _ _).alloc (Nat.le_refl _) _
 have ix : (Tryz.prog.info? 52).map (·.size) = some xc.size := by rw [<- hxc]; exact (by kernel_rfl : (Tryz.prog.info? 52).map (·.size) = some 24)
 replace hb := hid hb;have k20 : ∀ W', Below (W.alloc (.cells xc 52)).heap.size (W.alloc (.cells xc 52)) W' -> W'.cell? ⟨W.heap.size, 20, none⟩ = some (.int .i64 p.code) := fun W' h => by rw [(hB.below h).cell, <- hxc]; rfl
 have k19 : (W.alloc (.cells xc 52)).cell? ⟨W.heap.size, 19, none⟩ = some (.bool p.present) := by rw [hB.cell, <- hxc]; rfl
 have k20 := k20 _ (Below.refl _ _)
 obtain ⟨c, hc⟩ : ∃ c, p.code = c := ⟨_, rfl⟩
 obtain ⟨q, hq⟩ : ∃ q, p.present = q := ⟨_, rfl⟩
 obtain ⟨b, hbb⟩ : ∃ b, within c 0 5 = b := ⟨_, rfl⟩
 rw [hc] at k20 CW ⊢
 rw [hq] at k19 ⊢
 rw [hbb] at CW ⊢
 rw [hxc]
 clear hxc hB ix hq hc hbb;by_cases h0 : c = 0
 ·subst h0
  cases b <;> cases q <;>
  ·go_enter Tryz.func123, Tryz.ntmps123
   go_wp2_with fail
   refine (CW.out _).mono ?_
   rintro e w1 ⟨rfl, rfl⟩
   go_wp2_with fail
   go_ret
   exact ⟨rfl, hb.out⟩
 ·have d0 : (c == 0) = false := by simpa using h0
  cases b <;> cases q <;>
  ·go_enter Tryz.func123, Tryz.ntmps123
   go_wp2_with fail
   refine (CW.out _).mono ?_
   rintro e w1 ⟨rfl, rfl⟩
   go_wp2_with fail
   go_ret
   exact ⟨by simp [h0], hb.out⟩
end
section
attribute [local go_sem] Oper.semAt_some
structure PkS (p : Pk) : Prop where
 topic : p.topic.length <= 2000000
 body : p.body.length <= 2000000
 client : p.client.length <= 2000000
 wt : p.will.topic.length <= 2000000
 wb : p.will.body.length <= 2000000
 user : p.user.length <= 2000000
 pass : p.pass.length <= 2000000
 wants : ∀ x ∈ p.wants, x.filter.length <= 2000000
 filters : ∀ x ∈ p.filters, x.length <= 2000000
def pubId (p : Pk) : Bool := (decide (p.qos = 0) && decide (p.id = 0) && !p.dup) || (decide (0 < p.qos) && within p.id 1 65535)
theorem pk_mayPub (p : Pk) (h : H3) (W : World) (hs : PkS p) : Calls Tryz.prog 204 #[.agg (p.cells h).toArray] W (AnyP (mayPub p) W) := by
 have CN := hid (fun W' => topic_Name p.topic W' (by have := hs.topic; omega) (anyOK p.topic (by have := hs.topic; omega)))
 have CW := hid (pk_within p.id 1 65535)
 have CQ := hid (pk_qos p.qos)
 have hbl := hs.body
 have hm : mayPub p = (nameR p.topic && decide (p.body.length <= 2000) && within p.qos 0 2 && pubId p) := rfl
 rw [hm]
 have hid' : pubId p = ((decide (p.qos = 0) && decide (p.id = 0) && !p.dup) || (decide (0 < p.qos) && within p.id 1 65535)) := rfl
 have hsz : ByteArray.size ⟨p.body.toArray⟩ = p.body.length := by simp [ByteArray.size]
 obtain ⟨xc, hxc⟩ : ∃ xc, (p.cells h).toArray = xc := ⟨_, rfl⟩
 have hB : Blk (W.alloc (.cells xc 52)) W.heap.size xc 52 := Blk.new _ _ _
 have hb : Below W.heap.size W (W.alloc (.cells xc 52)) := (Below.refl _ _).alloc (Nat.le_refl _) _
 have ix : (Tryz.prog.info? 52).map (·.size) = some xc.size := by rw [<- hxc]; exact (by kernel_rfl : (Tryz.prog.info? 52).map (·.size) = some 24)
 replace hb := hid hb;clear hm hs;have k1 : (W.alloc (.cells xc 52)).cell? ⟨W.heap.size, 1, none⟩ = some (.bool p.dup) := by rw [hB.cell, <- hxc]; rfl
 have k3 : (W.alloc (.cells xc 52)).cell? ⟨W.heap.size, 3, none⟩ = some (.int .i64 p.qos) := by rw [hB.cell, <- hxc]; rfl
 have k4 : (W.alloc (.cells xc 52)).cell? ⟨W.heap.size, 4, none⟩ = some (.string ⟨p.topic.toArray⟩) := by rw [hB.cell, <- hxc]; rfl
 have k6 : (W.alloc (.cells xc 52)).cell? ⟨W.heap.size, 6, none⟩ = some (.int .i64 p.id) := by rw [hB.cell, <- hxc]; rfl
 have kb : Hid (∀ W', Below (W.alloc (.cells xc 52)).heap.size (W.alloc (.cells xc 52)) W' -> W'.cell? ⟨W.heap.size, 5, none⟩ = some (.string ⟨p.body.toArray⟩) /\ W'.cell? ⟨W.heap.size, 3, none⟩ = some (.int .i64 p.qos)) := hid fun W' h => ⟨by rw [(hB.below h).cell, <- hxc]; rfl, by rw [(hB.below h).cell, <- hxc]; rfl⟩
 obtain ⟨n, hn⟩ : ∃ n, p.body.length = n := ⟨_, rfl⟩
 obtain ⟨bb, hbb⟩ : ∃ bb : ByteArray, (⟨p.body.toArray⟩ : ByteArray) = bb := ⟨_, rfl⟩
 obtain ⟨tb, htb⟩ : ∃ tb : ByteArray, (⟨p.topic.toArray⟩ : ByteArray) = tb := ⟨_, rfl⟩
 obtain ⟨nm, hnm⟩ : ∃ b, nameR p.topic = b := ⟨_, rfl⟩
 obtain ⟨ib, hib⟩ : ∃ b, pubId p = b := ⟨_, rfl⟩
 obtain ⟨z, hz⟩ : ∃ z, p.qos = z := ⟨_, rfl⟩
 obtain ⟨i, hi⟩ : ∃ i, p.id = i := ⟨_, rfl⟩
 obtain ⟨q, hq⟩ : ∃ q, p.dup = q := ⟨_, rfl⟩
 obtain ⟨wq, hwq⟩ : ∃ b, within z 0 2 = b := ⟨_, rfl⟩
 obtain ⟨wi, hwi⟩ : ∃ b, within i 1 65535 = b := ⟨_, rfl⟩
 rw [hib, hz, hi, hq, hwi] at hid'
 rw [hn] at hsz hbl ⊢
 rw [hbb] at hsz kb
 rw [htb] at k4 CN
 rw [hnm] at CN ⊢
 rw [hz] at k3 kb CQ ⊢
 rw [hi] at k6 CW
 rw [hq] at k1
 rw [hwq] at CQ ⊢
 rw [hwi] at CW
 rw [hib, hxc]
 replace hid' := hid hid';clear hxc hB ix hn hbb htb hnm hib hz hi hq hwq hwi;obtain ⟨W0, hW0⟩ : ∃ W0, W.alloc (.cells xc 52) = W0 := ⟨_, rfl⟩
 rw [hW0] at k1 k3 k4 k6 kb hb
 go_enter Tryz.func204, Tryz.ntmps204
 go_upto_region 1 with fail
 clear hW0;go_cut [3] from 4 to 26 (fun s3 wx => s3 = .bool ib /\ W0 = wx)
 case first =>
  by_cases hz : z = 0
  ·subst hz
   by_cases hi : i = 0
   ·subst hi
    have e : ib = !q := by have := hid'.out; simpa using this
    subst e;cases q <;>
    ·go_wp2_with fail
     go_meet
     case rel => exact ⟨rfl, rfl⟩
   ·have e : ib = false := by have := hid'.out; simpa [hi] using this
    have d0 : (i == 0) = false := by simpa using hi
    subst e;go_wp2_with fail
    go_meet
    case rel => exact ⟨rfl, rfl⟩
  ·have d0 : (z == 0) = false := by simpa using hz
   by_cases h0 : 0 < z
   ·have e : ib = wi := by have := hid'.out; simpa [hz, h0] using this
    subst e;go_wp2_with fail
    refine (CW.out _).mono ?_
    rintro e w1 ⟨rfl, rfl⟩
    go_wp2_with fail
    go_meet
    case rel => exact ⟨rfl, rfl⟩
   ·have e : ib = false := by have := hid'.out; simpa [hz, h0] using this
    have d1 : decide (0 < z) = false := decide_eq_false h0
    subst e;go_wp2_with fail
    go_meet
    case rel => exact ⟨rfl, rfl⟩
 case rest =>
  obtain ⟨rfl, rfl⟩ := hcut
  clear hid';go_wp2_with fail
  refine (CN.out _).mono ?_
  rintro e w1 ⟨rfl, hb1⟩
  obtain ⟨c5, c3⟩ := kb.out _ hb1
  have HB := hid (hb.out.trans (hb1.mono hb.out.size))
  clear hb1;cases nm with
  | false =>
   go_wp2_with fail
   go_ret
   exact ⟨rfl, HB.out⟩
  | true =>
   by_cases hn : n <= 2000
   ·have d : decide ((n : Int) <= 2000) = true := decide_eq_true (by omega)
    go_wp2_with fail
    refine (CQ.out _).mono ?_
    rintro e w2 ⟨rfl, rfl⟩
    cases wq <;>
    ·go_wp2_with fail
     go_ret
     exact ⟨by simp [hn], HB.out⟩
   ·have d : decide ((n : Int) <= 2000) = false := decide_eq_false (by omega)
    go_wp2_with fail
    go_ret
    exact ⟨by simp [hn], HB.out⟩
end
section
attribute [local go_sem] Oper.semAt_some
theorem eql_z (x : List UInt8) (W : World) : (binOp .eql 9 (.string ⟨x.toArray⟩) (.string ⟨#[]⟩)).run Tryz.prog W = .ok (.bool x.isEmpty) W := by
 go_simp
theorem neq_z (x : List UInt8) (W : World) : (binOp .neq 9 (.string ⟨x.toArray⟩) (.string ⟨#[]⟩)).run Tryz.prog W = .ok (.bool (!x.isEmpty)) W := by
 go_simp
theorem eqg_z (x : List UInt8) (s1 s2 : Operand) (W : World) : (eqGuard .eql 9 s1 s2 (.string ⟨x.toArray⟩) (.string ⟨#[]⟩)).run Tryz.prog W = .ok () W := by
 go_simp
theorem neqg_z (x : List UInt8) (s1 s2 : Operand) (W : World) : (eqGuard .neq 9 s1 s2 (.string ⟨x.toArray⟩) (.string ⟨#[]⟩)).run Tryz.prog W = .ok () W := by
 go_simp
theorem eql_wz (u : WillV) (W : World) : (binOp .eql 47 (.agg u.vals) (.agg #[.string ⟨#[]⟩, .string ⟨#[]⟩, .int .i64 0, .bool false])).run Tryz.prog W = .ok (.bool (eqWill2 u)) W := by
 obtain ⟨t, b, q, r⟩ := u
 unfold WillV.vals eqWill2
 go_simp;by_cases h1 : t = []
 ·by_cases h2 : b = []
  ·by_cases h3 : q = 0
   ·cases r <;> simp [h1, h2, h3]
   ·simp [h1, h2, h3]
  ·simp [h1, h2]
 ·simp [h1]
theorem eqg_wz (u : WillV) (s1 s2 : Operand) (W : World) : (eqGuard .eql 47 s1 s2 (.agg u.vals) (.agg #[.string ⟨#[]⟩, .string ⟨#[]⟩, .int .i64 0, .bool false])).run Tryz.prog W = .ok () W := by
 obtain ⟨t, b, q, r⟩ := u
 unfold WillV.vals
 go_simp
theorem wLG {P : Program} {w : World} {ops : Array Oper} {rest : List Oper} {op : Oper} {a : Act} {Q : Exit -> Act -> World -> Prop} (ty : TypeId) {x : Operand} (ho : op.op = .load ty x) {b : Nat} {cs : Array Value} {T : TypeId} (hx : a.eval x = .pointer (some ⟨b, 0, none⟩)) (hb : Blk w b cs T) {d : TypeDesc} (hu : P.underlying ty = some d)
  {v : Value} (hv : Value.agg cs = v) (h : wpList P ops Q rest (a.put op.dst v) w) (hi : (P.info? ty).map (·.size) = some cs.size) (hw : Region.wanted op (yielded ops a.tmps) = true := by kernel_rfl) (hd : d.isRow = true := by rfl) : wpList P ops Q (op :: rest) a w := by
 subst hv;have hl := run_load_blk (P := P) hb ty hu hd hi
 unfold wpList
 rw [if_pos hw]
 refine .inl ?_
 unfold Oper.wp execOp
 simp only [ho, hx, Sem.run_bind, hl, Result.andThen_ok, Sem.run_pure]
 exact h
def willB (p : Pk) : Bool := (!p.hasWill && eqWill2 p.will) || (p.hasWill && nameR p.will.topic && decide (p.will.body.length <= 2000) && within p.will.qos 0 2)
def userB (p : Pk) : Bool := (p.hasUser && saidN p.user 200) || (!p.hasUser && p.user.isEmpty && !p.hasPass)
def passB (p : Pk) : Bool := (p.hasPass && decide (p.pass.length <= 200)) || (!p.hasPass && p.pass.isEmpty)
theorem mayC_eq (p : Pk) : mayC p = (saidN p.client 23 && (p.clean || !p.client.isEmpty) && within p.keep 0 65535 && willB p && userB p && passB p) := rfl
structure ConI (W : World) (p : Pk) (h : H3) (w : World) : Prop where
 below : Below W.heap.size W w
 pk : Blk w W.heap.size (p.cells h).toArray 52
 wl : Blk w (W.heap.size + 1) p.will.vals 47
theorem ConI.step {W : World} {p : Pk} {h : H3} {w w' : World} (x : ConI W p h w) (hb : Below w.heap.size w w') : ConI W p h w' := ⟨x.below.trans (hb.mono x.below.size), x.pk.below hb, x.wl.below hb⟩
theorem isEmpty_iff (s : List UInt8) : decide (s = []) = s.isEmpty := by cases s <;> simp
theorem pk_mayCon (p : Pk) (h : H3) (W : World) (hs : PkS p) : Calls Tryz.prog 197 #[.agg (p.cells h).toArray] W (AnyP (mayC p) W) := by
 have CN := hid (fun W' => topic_Name p.will.topic W' (by have := hs.wt; omega) (anyOK p.will.topic (by have := hs.wt; omega)))
 have CQ := hid (pk_qos p.will.qos)
 have CU := hid (fun W' => pk_said p.user 200 W' (by have := hs.user; omega) (by decide))
 have CC := hid (fun W' => pk_said p.client 23 W' (by have := hs.client; omega) (by decide))
 have CW := hid (pk_within p.keep 0 65535)
 have HWE := hid (fun W => eql_wz p.will W)
 have HWG := hid (fun s1 s2 W => eqg_wz p.will s1 s2 W)
 have hbl := hs.wb
 have hpl := hs.pass
 have htot := hid (mayC_eq p)
 obtain ⟨tot, ht⟩ : ∃ b, mayC p = b := ⟨_, rfl⟩
 rw [ht] at htot ⊢
 clear ht;have hwl : Hid (willB p = ((!p.hasWill && eqWill2 p.will) || (p.hasWill && nameR p.will.topic && decide (p.will.body.length <= 2000) && within p.will.qos 0 2))) := hid rfl
 have hub : Hid (userB p = ((p.hasUser && saidN p.user 200) || (!p.hasUser && p.user.isEmpty && !p.hasPass))) := hid rfl
 have hpb : Hid (passB p = ((p.hasPass && decide (p.pass.length <= 200)) || (!p.hasPass && p.pass.isEmpty))) := hid rfl
 have EU := hid (eql_z p.user)
 have EP := hid (eql_z p.pass)
 have EC := hid (neq_z p.client)
 have GU := hid (eqg_z p.user)
 have GP := hid (eqg_z p.pass)
 have GC := hid (neqg_z p.client)
 have hsz1 : ByteArray.size ⟨p.will.body.toArray⟩ = p.will.body.length := by simp [ByteArray.size]
 have hsz2 : ByteArray.size ⟨p.pass.toArray⟩ = p.pass.length := by simp [ByteArray.size]
 obtain ⟨xc, hxc⟩ : ∃ xc, (p.cells h).toArray = xc := ⟨_, rfl⟩
 have hB : Blk (W.alloc (.cells xc 52)) W.heap.size xc 52 := Blk.new _ _ _
 have hb : Below W.heap.size W (W.alloc (.cells xc 52)) := (Below.refl _ _).alloc (Nat.le_refl _) _
 have ix : (Tryz.prog.info? 52).map (·.size) = some xc.size := by rw [<- hxc]; exact (by kernel_rfl : (Tryz.prog.info? 52).map (·.size) = some 24)
 replace hb := hid hb;have hmid := hB.mid ((p.cells h).take 11) [.string ⟨p.will.topic.toArray⟩, .string ⟨p.will.body.toArray⟩, .int .i64 p.will.qos, .bool p.will.retain] ((p.cells h).drop 15) (by rw [<- hxc]; rfl)
 have HBx := hid (show Blk (W.alloc (.cells xc 52)) W.heap.size (p.cells h).toArray 52 from by rw [hxc]; exact hB)
 rw [hxc]
 have hone : Hid (∀ v ∈ #[Value.string ⟨p.will.topic.toArray⟩, .string ⟨p.will.body.toArray⟩, .int .i64 p.will.qos, .bool p.will.retain].toList, v.oneCell' = true) := hid (by simp [Value.oneCell'])
 have hZ : Blk ((W.alloc (.cells xc 52)).alloc (.cells #[.string ⟨#[]⟩, .string ⟨#[]⟩, .int .i64 0, .bool false] 47)) (W.heap.size + 1) #[.string ⟨#[]⟩, .string ⟨#[]⟩, .int .i64 0, .bool false] 47 := by
  have := Blk.new (W.alloc (.cells xc 52)) #[.string ⟨#[]⟩, .string ⟨#[]⟩, .int .i64 0, .bool false] 47
  simpa using this
 clear hB ix hs;go_enter Tryz.func197, Tryz.ntmps197
 go_upto_region 2 with (first
  | (refine wLm 47 rfl rfl hmid Tryz.underlying47 ?_)
  | (refine wS 47 4 rfl (W.heap.size + 1) _ _ rfl rfl hZ rfl rfl hone.out ?_; intro w2 hw2 hr2))
 have hI : ConI W p h w2 := by
  have hb1 := hb.out
  have hz : (W.alloc (.cells xc 52)).heap.size = W.heap.size + 1 := by simp
  refine ⟨(hb1.alloc hb1.size _).trans (hr2.below (by simp; omega) (by simp)), (HBx.out.alloc _).keepW hr2 (by simp), ?_⟩
  exact hw2
 have HI := hid hI;replace hxc := hid hxc;clear hmid hw2 hr2 hI HBx;obtain ⟨wl, hwb⟩ : ∃ b, willB p = b := ⟨_, rfl⟩
 obtain ⟨us, hus⟩ : ∃ b, userB p = b := ⟨_, rfl⟩
 obtain ⟨ps, hps⟩ : ∃ b, passB p = b := ⟨_, rfl⟩
 rw [hwb] at hwl htot
 rw [hus] at hub htot
 rw [hps] at hpb htot
 clear hwb hus hps;clear hone;try simp only [PT]
 go_cut [4] from 9 to 36 (fun s4 wx => s4 = .bool wl /\ Hid (ConI W p h wx))
 case first =>
  have k10 : w2.cell? ⟨W.heap.size, 10, none⟩ = some (.bool p.hasWill) := HI.out.pk.cell 10
  clear EU EP EC GU GP GC hsz2 hpl;cases hw : p.hasWill with
  | false =>
   have tm := HI.out.wl
   have HE := HWE.out
   have HG := HWG.out
   rw [hw] at k10 hwl
   have e : wl = eqWill2 p.will := by have := hwl.out; simpa using this
   obtain ⟨ew, hew⟩ : ∃ b, eqWill2 p.will = b := ⟨_, rfl⟩
   obtain ⟨uv, huv⟩ : ∃ v, p.will.vals = v := ⟨_, rfl⟩
   have iw : (Tryz.prog.info? 47).map (·.size) = some uv.size := by rw [<- huv]; exact (by kernel_rfl : (Tryz.prog.info? 47).map (·.size) = some 4)
   rw [hew] at e HE
   rw [huv] at tm HE HG
   obtain ⟨sv, hsv⟩ : ∃ v, Value.agg uv = v := ⟨_, rfl⟩
   rw [hsv] at HE HG
   have hsv := hid hsv;replace iw := hid iw;have tok := hid trivial;subst e;clear huv hew hwl hw hsz1 hbl;cases wl <;>
   ·go_wp2_with (clear tok; refine wLG 47 rfl rfl tm Tryz.underlying47 hsv.out ?_ iw.out)
    go_meet
    case rel => exact ⟨rfl, HI⟩
  | true =>
   have kt : w2.cell? ⟨W.heap.size + 1, 0, none⟩ = some (.string ⟨p.will.topic.toArray⟩) := HI.out.wl.cell 0
   rw [hw] at k10 hwl
   have e : Hid (wl = (nameR p.will.topic && decide (p.will.body.length <= 2000) && within p.will.qos 0 2)) := hid (by have := hwl.out; simpa using this)
   clear hwl hw;have CNx := CN
   obtain ⟨nm, hnm⟩ : ∃ b, nameR p.will.topic = b := ⟨_, rfl⟩
   rw [hnm] at e CNx
   obtain ⟨wq, hwq⟩ : ∃ b, within p.will.qos 0 2 = b := ⟨_, rfl⟩
   rw [hwq] at e CQ
   clear hnm hwq;obtain ⟨n, hn⟩ : ∃ n, p.will.body.length = n := ⟨_, rfl⟩
   rw [hn] at e hsz1 hbl
   go_wp2_with fail
   refine (CNx.out _).mono ?_
   rintro e' w3 ⟨rfl, hb3⟩
   have HI3 := hid (HI.out.step hb3)
   have kb : w3.cell? ⟨W.heap.size + 1, 1, none⟩ = some (.string ⟨p.will.body.toArray⟩) := HI3.out.wl.cell 1
   have kq : w3.cell? ⟨W.heap.size + 1, 2, none⟩ = some (.int .i64 p.will.qos) := HI3.out.wl.cell 2
   obtain ⟨bb, hbb⟩ : ∃ bb : ByteArray, (⟨p.will.body.toArray⟩ : ByteArray) = bb := ⟨_, rfl⟩
   rw [hbb] at kb hsz1
   clear hb3 hbb k10 kt;cases nm with
   | false =>
    obtain rfl : wl = false := by have := e.out; simpa using this
    go_wp2_with fail
    go_meet
    case rel => exact ⟨rfl, HI3⟩
   | true =>
    by_cases h2 : n <= 2000
    ·have d : decide ((n : Int) <= 2000) = true := decide_eq_true (by omega)
     obtain rfl : wl = wq := by have := e.out; simpa [h2] using this
     go_wp2_with fail
     refine (CQ.out _).mono ?_
     rintro e' w4 ⟨rfl, rfl⟩
     go_wp2_with fail
     go_meet
     case rel => exact ⟨rfl, HI3⟩
    ·have d : decide ((n : Int) <= 2000) = false := decide_eq_false (by omega)
     obtain rfl : wl = false := by have := e.out; simpa [h2] using this
     go_wp2_with fail
     go_meet
     case rel => exact ⟨rfl, HI3⟩
 case rest =>
  obtain ⟨rfl, hIc⟩ := hcut
  obtain ⟨wa, hwa⟩ : ∃ W, wc = W := ⟨_, rfl⟩
  rw [hwa] at hIc ⊢
  clear hwa HI hsz1 hbl hwl CN CQ HWE HWG;have k15 : wa.cell? ⟨W.heap.size, 15, none⟩ = some (.bool p.hasUser) := hIc.out.pk.cell 15
  have k16 : wa.cell? ⟨W.heap.size, 16, none⟩ = some (.bool p.hasPass) := hIc.out.pk.cell 16
  have k17 : wa.cell? ⟨W.heap.size, 17, none⟩ = some (.string ⟨p.user.toArray⟩) := hIc.out.pk.cell 17
  go_upto_region 3 with fail
  try simp only [PT]
  go_cut [5] from 37 to 58 (fun s5 wx => s5 = .bool us /\ Hid (ConI W p h wx))
  case first =>
   clear EP EC GP GC hsz2 hpl CC CW;obtain ⟨uv, huv⟩ : ∃ v, Value.string ⟨p.user.toArray⟩ = v := ⟨_, rfl⟩
   obtain ⟨ue, hue⟩ : ∃ b, p.user.isEmpty = b := ⟨_, rfl⟩
   obtain ⟨su, hsu⟩ : ∃ b, saidN p.user 200 = b := ⟨_, rfl⟩
   have EU := EU.out
   have GU := GU.out
   rw [huv] at k17 CU EU GU
   rw [hue] at EU hub
   rw [hsu] at CU hub
   clear huv hue hsu;cases hw : p.hasUser with
   | true =>
    rw [hw] at k15 hub
    replace hw := hid hw;clear EU GU;have e : us = su := by have := hub.out; simpa using this
    subst e;clear hub;go_wp2_with fail
    refine (CU.out _).mono ?_
    rintro e' w3 ⟨rfl, hb3⟩
    have HI3 := hid (hIc.out.step hb3)
    have j15 : w3.cell? ⟨W.heap.size, 15, none⟩ = some (.bool true) := by rw [<- hw.out]; exact HI3.out.pk.cell 15
    clear hb3;cases us <;>
    ·go_wp2_with fail
     go_meet
     case rel => exact ⟨rfl, HI3⟩
   | false =>
    rw [hw] at k15 hub
    have e : us = (ue && !p.hasPass) := by have := hub.out; simpa using this
    obtain ⟨hp, hhp⟩ : ∃ b, p.hasPass = b := ⟨_, rfl⟩
    rw [hhp] at k16 e
    subst e;clear hub hw hhp;cases ue with
    | false =>
     go_wp2_with fail
     go_meet
     case rel => exact ⟨rfl, hIc⟩
    | true =>
     cases hp <;>
     ·go_wp2_with fail
      go_meet
      case rel => exact ⟨rfl, hIc⟩
  case rest =>
   obtain ⟨rfl, hId⟩ := hcut
   obtain ⟨wb, hwb⟩ : ∃ W, wc = W := ⟨_, rfl⟩
   rw [hwb] at hId ⊢
   clear hwb hIc hub EU GU CU k15 k16 k17;have k16 : wb.cell? ⟨W.heap.size, 16, none⟩ = some (.bool p.hasPass) := hId.out.pk.cell 16
   have k18 : wb.cell? ⟨W.heap.size, 18, none⟩ = some (.string ⟨p.pass.toArray⟩) := hId.out.pk.cell 18
   go_upto_region 4 with fail
   try simp only [PT]
   go_cut [6] from 59 to 76 (fun s6 wx => s6 = .bool ps /\ wb = wx)
   case first =>
    clear EC GC CC CW;cases hw : p.hasPass with
    | true =>
     rw [hw] at k16 hpb
     clear hw EP GP;obtain ⟨bb, hbb⟩ : ∃ bb : ByteArray, (⟨p.pass.toArray⟩ : ByteArray) = bb := ⟨_, rfl⟩
     obtain ⟨n, hn⟩ : ∃ n, p.pass.length = n := ⟨_, rfl⟩
     rw [hbb] at k18 hsz2
     rw [hn] at hsz2 hpl hpb
     clear hbb hn;by_cases h2 : n <= 200
     ·have d : decide ((n : Int) <= 200) = true := decide_eq_true (by omega)
      obtain rfl : ps = true := by have := hpb.out; simpa [h2] using this
      clear hpb;go_wp2_with fail
      go_meet
      case rel => exact ⟨rfl, rfl⟩
     ·have d : decide ((n : Int) <= 200) = false := decide_eq_false (by omega)
      obtain rfl : ps = false := by have := hpb.out; simpa [h2] using this
      clear hpb;go_wp2_with fail
      go_meet
      case rel => exact ⟨rfl, rfl⟩
    | false =>
     rw [hw] at k16 hpb
     obtain ⟨uv, huv⟩ : ∃ v, Value.string ⟨p.pass.toArray⟩ = v := ⟨_, rfl⟩
     obtain ⟨ue, hue⟩ : ∃ b, p.pass.isEmpty = b := ⟨_, rfl⟩
     have EP := EP.out
     have GP := GP.out
     rw [huv] at k18 EP GP
     rw [hue] at EP hpb
     obtain rfl : ps = ue := by have := hpb.out; simpa using this
     clear huv hue hpb hw hsz2 hpl;cases ps <;>
     ·go_wp2_with fail
      go_meet
      case rel => exact ⟨rfl, rfl⟩
   case rest =>
    obtain ⟨rfl, rfl⟩ := hcut
    clear hpb EP GP hsz2 hpl k16 k18;go_upto_region 5 with fail
    try simp only [PT]
    have k7 : wb.cell? ⟨W.heap.size, 7, none⟩ = some (.string ⟨p.client.toArray⟩) := hId.out.pk.cell 7
    obtain ⟨uv, huv⟩ : ∃ v, Value.string ⟨p.client.toArray⟩ = v := ⟨_, rfl⟩
    obtain ⟨ce, hce⟩ : ∃ b, p.client.isEmpty = b := ⟨_, rfl⟩
    obtain ⟨sc, hsc⟩ : ∃ b, saidN p.client 23 = b := ⟨_, rfl⟩
    obtain ⟨wk, hwk⟩ : ∃ b, within p.keep 0 65535 = b := ⟨_, rfl⟩
    have EC := EC.out
    have GC := GC.out
    have huv' := hid huv;rw [huv] at k7 CC EC GC
    rw [hce] at EC htot
    rw [hsc] at CC htot
    rw [hwk] at CW htot
    clear huv hce hsc hwk;go_wp2_with fail
    refine (CC.out _).mono ?_
    rintro e' w3 ⟨rfl, hb3⟩
    have HI3 := hid (hId.out.step hb3)
    have j8 : w3.cell? ⟨W.heap.size, 8, none⟩ = some (.bool p.clean) := HI3.out.pk.cell 8
    have j7 : w3.cell? ⟨W.heap.size, 7, none⟩ = some uv := by rw [<- huv'.out]; exact HI3.out.pk.cell 7
    have j9 : w3.cell? ⟨W.heap.size, 9, none⟩ = some (.int .i64 p.keep) := HI3.out.pk.cell 9
    obtain ⟨cl, hcl⟩ : ∃ b, p.clean = b := ⟨_, rfl⟩
    rw [hcl] at j8 htot
    clear hb3 hcl hId k7;cases sc with
    | false =>
     go_wp2_with fail
     go_ret
     exact ⟨by rw [htot.out]; simp, HI3.out.below⟩
    | true =>
     cases cl with
     | true =>
      go_wp2_with fail
      refine (CW.out _).mono ?_
      rintro e' w4 ⟨rfl, rfl⟩
      cases wk <;> cases wl <;> cases us <;>
      ·go_wp2_with fail
       go_ret
       exact ⟨by rw [htot.out]; simp, HI3.out.below⟩
     | false =>
      cases ce with
      | true =>
       go_wp2_with fail
       go_ret
       exact ⟨by rw [htot.out]; simp, HI3.out.below⟩
      | false =>
       go_wp2_with fail
       refine (CW.out _).mono ?_
       rintro e' w4 ⟨rfl, rfl⟩
       cases wk <;> cases wl <;> cases us <;>
       ·go_wp2_with fail
        go_ret
        exact ⟨by rw [htot.out]; simp, HI3.out.below⟩
end
end Go.Proofs.YtkghejaimhoboaaGreatDoor
