/- Parts of the proof of ScriptCuts: contracts of functions that it reaches, and plain lemmas. No condition of their own. -/
import Derived.Test.YtkghejaimhoboaaGreatDoorPk29
import Derived.Test.YtkghejaimhoboaaGreatDoorPk16
import Derived.Test.YtkghejaimhoboaaGreatDoorPk31
set_option linter.unusedSimpArgs false
set_option linter.unusedVariables false
set_option maxRecDepth 100000
set_option maxHeartbeats 8000000
namespace Go.Proofs.YtkghejaimhoboaaGreatDoor
open Go.RowKit Go.Shelf
section
attribute [local go_sem] Oper.semAt_some
theorem ix_str (g : FuncId) (lb : Array Value) (p : (List UInt8) -> Bool) {w : World} {a : Option Addr} {n c : Nat} {l : List (List UInt8)} (h : LsAt sCl 1 w a n c l) (eg : fnC g)
  (hg : ∀ W x, x ∈ l -> Below w.heap.size w W -> Calls Tryz.prog g (#[sVl x] ++ lb) W (AnyP (p x) W)) : Calls Tryz.prog 242 #[.slice a n c, .func (.func g) #[] lb] w (IdxP (l.any p) w) := by
 have hle := h.le
 have hmax := h.max
 unfold maxLen at hmax
 have hn : n <= 9223372036854775807 := by omega
 have HL := hid h.len;have HG := hid hg;have HV := hid h;unfold fnC at eg
 clear hle hmax hg h;go_enter Tryz.func242, Tryz.ntmps242
 go_wp2_with fail
 go_loopw [8] (fun i wr => ∃ k : Nat, i = .int .i64 k /\ k <= n /\ Hid (Below w.heap.size w wr) /\ Hid (∀ j x, j < k -> l[j]? = some x -> p x = false)) (fun i _ => n - (intOf i).toNat)
 case atStart => exact ⟨0, rfl, Nat.zero_le _, hid (Below.refl _ _), hid fun j x hj => absurd hj (Nat.not_lt_zero _)⟩
 case round =>
  obtain ⟨k, rfl, hk, hB, hall⟩ := hrel
  rcases Nat.lt_or_ge k n with hlt | hge
  ·obtain ⟨x, hx⟩ : ∃ x, l[k]? = some x := ⟨_, List.getElem?_eq_getElem (by rw [HL.out]; exact hlt)⟩
   obtain ⟨g1, o1, ha, hr⟩ := HV.out.range hx
   have hc := hr _ hB.out
   have CC := hid (HG.out wr x (List.mem_of_getElem? hx) hB.out)
   subst ha;replace hx := hid hx;clear hr;(have h0 := hc 0 (.string ⟨x.toArray⟩) rfl; simp only [Nat.mul_one, Nat.add_zero] at h0; unfold sVl at CC; clear hc)
   go_wp2_with fail
   refine CC.out.mono ?_
   rintro e w1 ⟨rfl, hb1⟩
   have HB1 := hid (hB.out.trans (hb1.mono hB.out.size))
   clear hb1;cases hp : p x with
   | false =>
    replace hp := hid hp;go_wp2_with fail
    go_roundw
    case rel =>
     refine ⟨k + 1, by go_num, by omega, HB1, hid fun j y hj hy => ?_⟩
     by_cases hjk : j = k
     ·subst hjk
      rw [hx.out] at hy
      cases hy
      exact hp.out
     ·exact hall.out j y (by omega) hy
    case measure => simp [intOf]; omega
   | true =>
    have hany := hid (any_of hx.out hp)
    clear hp;go_wp2_with fail
    go_ret
    exact ⟨_, rfl, ⟨fun _ => hany.out, fun _ => by omega⟩, HB1.out⟩
  ·obtain rfl : k = n := by omega
   have hno := hid (any_no (p := p) (l := l) (fun j x hj => hall.out j x (by have := (List.getElem?_eq_some_iff.1 hj).1; have := HL.out; omega) hj))
   go_wp2_with fail
   go_ret
   exact ⟨-1, rfl, ⟨fun h => by omega, fun h => by rw [hno.out] at h; cases h⟩, hB.out⟩
theorem any_str (g : FuncId) (lb : Array Value) (p : (List UInt8) -> Bool) {w : World} {a : Option Addr} {n c : Nat} {l : List (List UInt8)} (h : LsAt sCl 1 w a n c l) (eg : fnC g)
  (hg : ∀ W x, x ∈ l -> Below w.heap.size w W -> Calls Tryz.prog g (#[sVl x] ++ lb) W (AnyP (p x) W)) : Calls Tryz.prog 195 #[.slice a n c, .func (.func g) #[] lb] w (AnyP (l.any p) w) := by
 have HG := hid (ix_str g lb p h eg hg)
 clear hg eg h;obtain ⟨b, hb⟩ : ∃ b, l.any p = b := ⟨_, rfl⟩
 rw [hb] at HG ⊢
 clear hb;go_enter Tryz.func195, Tryz.ntmps195
 go_wp2_with fail
 refine HG.out.mono ?_
 rintro e w1 ⟨z, rfl, hz, hb1⟩
 have HB1 := hid hb1;clear hb1;cases b with
 | true =>
  have h0 : 0 <= z := hz.2 rfl
  clear hz;go_wp2_with fail
  go_ret
  exact ⟨by simp [h0], HB1.out⟩
 | false =>
  have h0 : ¬ 0 <= z := fun h => by have := hz.1 h; cases this
  have d0 : decide (0 <= z) = false := decide_eq_false h0
  clear hz;go_wp2_with fail
  go_ret
  exact ⟨by simp [h0], HB1.out⟩
theorem ix_want (g : FuncId) (lb : Array Value) (p : WantV -> Bool) {w : World} {a : Option Addr} {n c : Nat} {l : List WantV} (h : LsAt WantV.cl 2 w a n c l) (eg : fnC g)
  (hg : ∀ W x, x ∈ l -> Below w.heap.size w W -> Calls Tryz.prog g (#[wVl x] ++ lb) W (AnyP (p x) W)) : Calls Tryz.prog 237 #[.slice a n c, .func (.func g) #[] lb] w (IdxP (l.any p) w) := by
 have hle := h.le
 have hmax := h.max
 unfold maxLen at hmax
 have hn : n <= 9223372036854775807 := by omega
 have HL := hid h.len;have HG := hid hg;have HV := hid h;unfold fnC at eg
 clear hle hmax hg h;go_enter Tryz.func237, Tryz.ntmps237
 go_wp2_with fail
 go_loopw [8] (fun i wr => ∃ k : Nat, i = .int .i64 k /\ k <= n /\ Hid (Below w.heap.size w wr) /\ Hid (∀ j x, j < k -> l[j]? = some x -> p x = false)) (fun i _ => n - (intOf i).toNat)
 case atStart => exact ⟨0, rfl, Nat.zero_le _, hid (Below.refl _ _), hid fun j x hj => absurd hj (Nat.not_lt_zero _)⟩
 case round =>
  obtain ⟨k, rfl, hk, hB, hall⟩ := hrel
  rcases Nat.lt_or_ge k n with hlt | hge
  ·obtain ⟨x, hx⟩ : ∃ x, l[k]? = some x := ⟨_, List.getElem?_eq_getElem (by rw [HL.out]; exact hlt)⟩
   obtain ⟨g1, o1, ha, hr⟩ := HV.out.range hx
   have hc := hr _ hB.out
   have CC := hid (HG.out wr x (List.mem_of_getElem? hx) hB.out)
   subst ha;replace hx := hid hx;clear hr;(unfold wVl at CC)
   go_wp2_with (refine wLm 169 rfl rfl hc Tryz.underlying169 ?_)
   refine CC.out.mono ?_
   rintro e w1 ⟨rfl, hb1⟩
   have HB1 := hid (hB.out.trans (hb1.mono hB.out.size))
   clear hb1;cases hp : p x with
   | false =>
    replace hp := hid hp;go_wp2_with fail
    go_roundw
    case rel =>
     refine ⟨k + 1, by go_num, by omega, HB1, hid fun j y hj hy => ?_⟩
     by_cases hjk : j = k
     ·subst hjk
      rw [hx.out] at hy
      cases hy
      exact hp.out
     ·exact hall.out j y (by omega) hy
    case measure => simp [intOf]; omega
   | true =>
    have hany := hid (any_of hx.out hp)
    clear hp;go_wp2_with fail
    go_ret
    exact ⟨_, rfl, ⟨fun _ => hany.out, fun _ => by omega⟩, HB1.out⟩
  ·obtain rfl : k = n := by omega
   have hno := hid (any_no (p := p) (l := l) (fun j x hj => hall.out j x (by have := (List.getElem?_eq_some_iff.1 hj).1; have := HL.out; omega) hj))
   go_wp2_with fail
   go_ret
   exact ⟨-1, rfl, ⟨fun h => by omega, fun h => by rw [hno.out] at h; cases h⟩, hB.out⟩
theorem any_want (g : FuncId) (lb : Array Value) (p : WantV -> Bool) {w : World} {a : Option Addr} {n c : Nat} {l : List WantV} (h : LsAt WantV.cl 2 w a n c l) (eg : fnC g)
  (hg : ∀ W x, x ∈ l -> Below w.heap.size w W -> Calls Tryz.prog g (#[wVl x] ++ lb) W (AnyP (p x) W)) : Calls Tryz.prog 188 #[.slice a n c, .func (.func g) #[] lb] w (AnyP (l.any p) w) := by
 have HG := hid (ix_want g lb p h eg hg)
 clear hg eg h;obtain ⟨b, hb⟩ : ∃ b, l.any p = b := ⟨_, rfl⟩
 rw [hb] at HG ⊢
 clear hb;go_enter Tryz.func188, Tryz.ntmps188
 go_wp2_with fail
 refine HG.out.mono ?_
 rintro e w1 ⟨z, rfl, hz, hb1⟩
 have HB1 := hid hb1;clear hb1;cases b with
 | true =>
  have h0 : 0 <= z := hz.2 rfl
  clear hz;go_wp2_with fail
  go_ret
  exact ⟨by simp [h0], HB1.out⟩
 | false =>
  have h0 : ¬ 0 <= z := fun h => by have := hz.1 h; cases this
  have d0 : decide (0 <= z) = false := decide_eq_false h0
  clear hz;go_wp2_with fail
  go_ret
  exact ⟨by simp [h0], HB1.out⟩
theorem pk_fit1_int (f : FuncId) (cap : Array Value) (b : Bool) (x : Int) (bx : Nat) (W : World) (ef : fnC f) (hb : Boxed W bx 110 (.func (.func f) #[] cap)) (hf : ∀ W', Below W.heap.size W W' -> Calls Tryz.prog f (#[iVl x] ++ cap) W' (AnyP b W')) : Calls Tryz.prog 194 #[iVl x, .pointer (some ⟨bx, 0, none⟩)] W (AnyP (!b) W) := by
 (have CF := hid (hf W (Below.refl _ _)); have B0 : Hid (Below W.heap.size W W) := hid (Below.refl _ _); have k0 := hb.cell; unfold iVl at *)
 unfold fnC at ef
 go_enter Tryz.func194, Tryz.ntmps194
 go_wp2_with fail
 refine CF.out.mono ?_
 rintro e w1 ⟨rfl, hb1⟩
 have HB := hid (B0.out.trans (hb1.mono B0.out.size))
 clear hb1;go_wp2_with fail
 go_ret
 exact ⟨rfl, HB.out⟩
theorem pk_fit_int (f : FuncId) (cap : Array Value) (pb : Int -> Bool) {w : World} {a : Option Addr} {n c : Nat} {l : List Int} (h : LsAt iCl 1 w a n c l) (ef : fnC f) (hf : ∀ W x, x ∈ l -> Below w.heap.size w W -> Calls Tryz.prog f (#[iVl x] ++ cap) W (AnyP (pb x) W)) :
  Calls Tryz.prog 144 #[.slice a n c, .func (.func f) #[] cap] w (AnyP (fitL l pb) w) := by
 have hmf : ∀ (fn : Fn) (first cap : Array Value) (w : World), (Instr.makeFunc fn first cap).run Tryz.prog w = .ok (.func fn first cap) w := fun _ _ _ _ => rfl
 have HL : l.length = n := h.len
 obtain ⟨W0, hW0⟩ : ∃ W, w.alloc (.cells #[.func (.func f) #[] cap] 110) = W := ⟨_, rfl⟩
 have b0 : Below w.heap.size w W0 := by rw [<- hW0]; exact (Below.refl _ _).alloc (Nat.le_refl _) _
 have x0 : Boxed W0 w.heap.size 110 (.func (.func f) #[] cap) := by rw [<- hW0]; exact Boxed.new _ _ _
 have CA := hid (any_int 194 #[.pointer (some ⟨w.heap.size, 0, none⟩)] (fun x => !pb x) (h.below b0) (enters_of Tryz.func194 (by kernel_rfl) rfl) (fun W x hx hb => pk_fit1_int f cap (pb x) x w.heap.size W ef (boxed_below x0 hb) (fun W' hb' => hf W' x hx ((b0.trans (hb.mono b0.size)).trans (hb'.mono (b0.trans (hb.mono b0.size)).size)))))
 have hall : fitL l pb = (decide (1 <= n) && decide (n <= 8) && !(l.any fun x => !pb x)) := by
  unfold fitL
  rw [HL, List.not_any_eq_all_not]
  simp
 obtain ⟨q, hq⟩ : ∃ b, (l.any fun x => !pb x) = b := ⟨_, rfl⟩
 rw [hq] at CA hall
 rw [hall]
 have B0 := hid b0;clear hq hall HL h hf b0 x0;by_cases h1 : 1 <= n
 ·have d1 : decide (1 <= (n : Int)) = true := decide_eq_true (by omega)
  by_cases h8 : n <= 8
  ·have d8 : decide ((n : Int) <= 8) = true := decide_eq_true (by omega)
   go_enter Tryz.func144, Tryz.ntmps144
   go_wp2_with fail
   refine CA.out.mono ?_
   rintro e w1 ⟨rfl, hb1⟩
   have HB := hid (B0.out.trans (hb1.mono B0.out.size))
   clear hb1;go_wp2_with fail
   go_ret
   exact ⟨by simp [h1, h8], HB.out⟩
  ·have d8 : decide ((n : Int) <= 8) = false := decide_eq_false (by omega)
   go_enter Tryz.func144, Tryz.ntmps144
   go_wp2_with fail
   go_ret
   exact ⟨by simp [h8], B0.out⟩
 ·have d1 : decide (1 <= (n : Int)) = false := decide_eq_false (by omega)
  go_enter Tryz.func144, Tryz.ntmps144
  go_wp2_with fail
  go_ret
  exact ⟨by simp [h1], B0.out⟩
theorem pk_fit1_str (f : FuncId) (cap : Array Value) (b : Bool) (x : (List UInt8)) (bx : Nat) (W : World) (ef : fnC f) (hb : Boxed W bx 184 (.func (.func f) #[] cap)) (hf : ∀ W', Below W.heap.size W W' -> Calls Tryz.prog f (#[sVl x] ++ cap) W' (AnyP b W')) : Calls Tryz.prog 196 #[sVl x, .pointer (some ⟨bx, 0, none⟩)] W (AnyP (!b) W) := by
 (have CF := hid (hf W (Below.refl _ _)); have B0 : Hid (Below W.heap.size W W) := hid (Below.refl _ _); have k0 := hb.cell; unfold sVl at *)
 unfold fnC at ef
 go_enter Tryz.func196, Tryz.ntmps196
 go_wp2_with fail
 refine CF.out.mono ?_
 rintro e w1 ⟨rfl, hb1⟩
 have HB := hid (B0.out.trans (hb1.mono B0.out.size))
 clear hb1;go_wp2_with fail
 go_ret
 exact ⟨rfl, HB.out⟩
theorem pk_fit_str (f : FuncId) (cap : Array Value) (pb : (List UInt8) -> Bool) {w : World} {a : Option Addr} {n c : Nat} {l : List (List UInt8)} (h : LsAt sCl 1 w a n c l) (ef : fnC f) (hf : ∀ W x, x ∈ l -> Below w.heap.size w W -> Calls Tryz.prog f (#[sVl x] ++ cap) W (AnyP (pb x) W)) :
  Calls Tryz.prog 152 #[.slice a n c, .func (.func f) #[] cap] w (AnyP (fitL l pb) w) := by
 have hmf : ∀ (fn : Fn) (first cap : Array Value) (w : World), (Instr.makeFunc fn first cap).run Tryz.prog w = .ok (.func fn first cap) w := fun _ _ _ _ => rfl
 have HL : l.length = n := h.len
 obtain ⟨W0, hW0⟩ : ∃ W, w.alloc (.cells #[.func (.func f) #[] cap] 184) = W := ⟨_, rfl⟩
 have b0 : Below w.heap.size w W0 := by rw [<- hW0]; exact (Below.refl _ _).alloc (Nat.le_refl _) _
 have x0 : Boxed W0 w.heap.size 184 (.func (.func f) #[] cap) := by rw [<- hW0]; exact Boxed.new _ _ _
 have CA := hid (any_str 196 #[.pointer (some ⟨w.heap.size, 0, none⟩)] (fun x => !pb x) (h.below b0) (enters_of Tryz.func196 (by kernel_rfl) rfl) (fun W x hx hb => pk_fit1_str f cap (pb x) x w.heap.size W ef (boxed_below x0 hb) (fun W' hb' => hf W' x hx ((b0.trans (hb.mono b0.size)).trans (hb'.mono (b0.trans (hb.mono b0.size)).size)))))
 have hall : fitL l pb = (decide (1 <= n) && decide (n <= 8) && !(l.any fun x => !pb x)) := by
  unfold fitL
  rw [HL, List.not_any_eq_all_not]
  simp
 obtain ⟨q, hq⟩ : ∃ b, (l.any fun x => !pb x) = b := ⟨_, rfl⟩
 rw [hq] at CA hall
 rw [hall]
 have B0 := hid b0;clear hq hall HL h hf b0 x0;by_cases h1 : 1 <= n
 ·have d1 : decide (1 <= (n : Int)) = true := decide_eq_true (by omega)
  by_cases h8 : n <= 8
  ·have d8 : decide ((n : Int) <= 8) = true := decide_eq_true (by omega)
   go_enter Tryz.func152, Tryz.ntmps152
   go_wp2_with fail
   refine CA.out.mono ?_
   rintro e w1 ⟨rfl, hb1⟩
   have HB := hid (B0.out.trans (hb1.mono B0.out.size))
   clear hb1;go_wp2_with fail
   go_ret
   exact ⟨by simp [h1, h8], HB.out⟩
  ·have d8 : decide ((n : Int) <= 8) = false := decide_eq_false (by omega)
   go_enter Tryz.func152, Tryz.ntmps152
   go_wp2_with fail
   go_ret
   exact ⟨by simp [h8], B0.out⟩
 ·have d1 : decide (1 <= (n : Int)) = false := decide_eq_false (by omega)
  go_enter Tryz.func152, Tryz.ntmps152
  go_wp2_with fail
  go_ret
  exact ⟨by simp [h1], B0.out⟩
theorem pk_fit1_want (f : FuncId) (cap : Array Value) (b : Bool) (x : WantV) (bx : Nat) (W : World) (ef : fnC f) (hb : Boxed W bx 191 (.func (.func f) #[] cap)) (hf : ∀ W', Below W.heap.size W W' -> Calls Tryz.prog f (#[wVl x] ++ cap) W' (AnyP b W')) : Calls Tryz.prog 189 #[wVl x, .pointer (some ⟨bx, 0, none⟩)] W (AnyP (!b) W) := by
 (obtain ⟨W0, hW0⟩ : ∃ W0, W.alloc (.cells #[.string ⟨x.filter.toArray⟩, .int .i64 x.qos] 169) = W0 := ⟨_, rfl⟩); have b0 : Below W.heap.size W W0 := (by subst hW0; exact (Below.refl _ _).alloc (Nat.le_refl _) _); have x0 : Blk W0 W.heap.size #[.string ⟨x.filter.toArray⟩, .int .i64 x.qos] 169 := (by subst hW0; exact Blk.new _ _ _); have CF := hid (hf W0 b0); have B0 := hid b0; have k0 := (boxed_below hb b0).cell; unfold wVl at *
 unfold fnC at ef
 go_enter Tryz.func189, Tryz.ntmps189
 go_wp2_with (refine wL 169 rfl rfl x0 Tryz.underlying169 ?_)
 refine CF.out.mono ?_
 rintro e w1 ⟨rfl, hb1⟩
 have HB := hid (B0.out.trans (hb1.mono B0.out.size))
 clear hb1;go_wp2_with fail
 go_ret
 exact ⟨rfl, HB.out⟩
theorem pk_fit_want (f : FuncId) (cap : Array Value) (pb : WantV -> Bool) {w : World} {a : Option Addr} {n c : Nat} {l : List WantV} (h : LsAt WantV.cl 2 w a n c l) (ef : fnC f) (hf : ∀ W x, x ∈ l -> Below w.heap.size w W -> Calls Tryz.prog f (#[wVl x] ++ cap) W (AnyP (pb x) W)) :
  Calls Tryz.prog 133 #[.slice a n c, .func (.func f) #[] cap] w (AnyP (fitL l pb) w) := by
 have hmf : ∀ (fn : Fn) (first cap : Array Value) (w : World), (Instr.makeFunc fn first cap).run Tryz.prog w = .ok (.func fn first cap) w := fun _ _ _ _ => rfl
 have HL : l.length = n := h.len
 obtain ⟨W0, hW0⟩ : ∃ W, w.alloc (.cells #[.func (.func f) #[] cap] 191) = W := ⟨_, rfl⟩
 have b0 : Below w.heap.size w W0 := by rw [<- hW0]; exact (Below.refl _ _).alloc (Nat.le_refl _) _
 have x0 : Boxed W0 w.heap.size 191 (.func (.func f) #[] cap) := by rw [<- hW0]; exact Boxed.new _ _ _
 have CA := hid (any_want 189 #[.pointer (some ⟨w.heap.size, 0, none⟩)] (fun x => !pb x) (h.below b0) (enters_of Tryz.func189 (by kernel_rfl) rfl) (fun W x hx hb => pk_fit1_want f cap (pb x) x w.heap.size W ef (boxed_below x0 hb) (fun W' hb' => hf W' x hx ((b0.trans (hb.mono b0.size)).trans (hb'.mono (b0.trans (hb.mono b0.size)).size)))))
 have hall : fitL l pb = (decide (1 <= n) && decide (n <= 8) && !(l.any fun x => !pb x)) := by
  unfold fitL
  rw [HL, List.not_any_eq_all_not]
  simp
 obtain ⟨q, hq⟩ : ∃ b, (l.any fun x => !pb x) = b := ⟨_, rfl⟩
 rw [hq] at CA hall
 rw [hall]
 have B0 := hid b0;clear hq hall HL h hf b0 x0;by_cases h1 : 1 <= n
 ·have d1 : decide (1 <= (n : Int)) = true := decide_eq_true (by omega)
  by_cases h8 : n <= 8
  ·have d8 : decide ((n : Int) <= 8) = true := decide_eq_true (by omega)
   go_enter Tryz.func133, Tryz.ntmps133
   go_wp2_with fail
   refine CA.out.mono ?_
   rintro e w1 ⟨rfl, hb1⟩
   have HB := hid (B0.out.trans (hb1.mono B0.out.size))
   clear hb1;go_wp2_with fail
   go_ret
   exact ⟨by simp [h1, h8], HB.out⟩
  ·have d8 : decide ((n : Int) <= 8) = false := decide_eq_false (by omega)
   go_enter Tryz.func133, Tryz.ntmps133
   go_wp2_with fail
   go_ret
   exact ⟨by simp [h8], B0.out⟩
 ·have d1 : decide (1 <= (n : Int)) = false := decide_eq_false (by omega)
  go_enter Tryz.func133, Tryz.ntmps133
  go_wp2_with fail
  go_ret
  exact ⟨by simp [h1], B0.out⟩
theorem pk_code (c : Int) (W : World) : Calls Tryz.prog 145 #[.int .i64 c] W (AnyP (mayCode c) W) := by
 have CQ := hid (pk_qos c W)
 unfold mayCode
 obtain ⟨b, hb⟩ : ∃ b, within c 0 2 = b := ⟨_, rfl⟩
 rw [hb] at CQ ⊢
 clear hb;by_cases h : c = 128
 ·subst h
  go_enter Tryz.func145, Tryz.ntmps145
  go_wp2_with fail
  refine CQ.out.mono ?_
  rintro e w1 ⟨rfl, rfl⟩
  cases b <;>
  ·go_wp2_with fail
   go_ret
   exact ⟨by simp, Below.refl _ _⟩
 ·have d : (c == 128) = false := by simpa using h
  go_enter Tryz.func145, Tryz.ntmps145
  go_wp2_with fail
  refine CQ.out.mono ?_
  rintro e w1 ⟨rfl, rfl⟩
  cases b <;>
  ·go_wp2_with fail
   go_ret
   exact ⟨by simp [h], Below.refl _ _⟩
theorem pk_want (x : WantV) (W : World) (hs : x.filter.length <= 2000000) : Calls Tryz.prog 134 #[wVl x] W (AnyP (mayWant x) W) := by
 unfold wVl
 obtain ⟨W0, hW0⟩ : ∃ W0, W.alloc (.cells #[.string ⟨x.filter.toArray⟩, .int .i64 x.qos] 169) = W0 := ⟨_, rfl⟩
 have b0 : Below W.heap.size W W0 := by rw [<- hW0]; exact (Below.refl _ _).alloc (Nat.le_refl _) _
 have x0 : Blk W0 W.heap.size #[.string ⟨x.filter.toArray⟩, .int .i64 x.qos] 169 := by rw [<- hW0]; exact Blk.new _ _ _
 have k0 : W0.cell? ⟨W.heap.size, 0, none⟩ = some (.string ⟨x.filter.toArray⟩) := x0.cell 0
 have CT := hid (topic_Filter2 x.filter W0 hs)
 have CQ := hid (pk_qos x.qos)
 unfold mayWant
 obtain ⟨fv, hfv⟩ : ∃ b, filterR x.filter = b := ⟨_, rfl⟩
 obtain ⟨b, hb⟩ : ∃ b, within x.qos 0 2 = b := ⟨_, rfl⟩
 rw [hfv] at CT ⊢
 rw [hb] at CQ ⊢
 have X0 := hid x0;have B0 := hid b0;clear hb hfv x0 b0;go_enter Tryz.func134, Tryz.ntmps134
 go_wp2_with fail
 refine CT.out.mono ?_
 rintro e w1 ⟨rfl, hb1⟩
 have k1 : w1.cell? ⟨W.heap.size, 1, none⟩ = some (.int .i64 x.qos) := (X0.out.below hb1).cell 1
 have B1 := hid (B0.out.trans (hb1.mono B0.out.size))
 clear hb1 k0;cases fv with
 | false =>
  go_wp2_with fail
  go_ret
  exact ⟨rfl, B1.out⟩
 | true =>
  go_wp2_with fail
  refine (CQ.out _).mono ?_
  rintro e w2 ⟨rfl, rfl⟩
  cases b <;>
  ·go_wp2_with fail
   go_ret
   exact ⟨rfl, B1.out⟩
end
end Go.Proofs.YtkghejaimhoboaaGreatDoor
