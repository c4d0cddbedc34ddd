/- Parts of the proof of ScriptCuts: contracts of functions that it reaches, and plain lemmas. No condition of their own. -/
import Derived.Test.YtkghejaimhoboaaGreatDoorPk38
import Derived.Test.YtkghejaimhoboaaGreatDoorPk40
set_option linter.unusedSimpArgs false
set_option linter.unusedVariables false
set_option maxRecDepth 100000
set_option maxHeartbeats 8000000
namespace Go.Proofs.YtkghejaimhoboaaGreatDoor
open Go.RowKit Go.Shelf
section
attribute [local go_sem] Oper.semAt_some
def NumR (F : List Nat) (p : Nat) (l m : List UInt8) (w : World) (e : Ending) (w' : World) : Prop := ∃ F', e = .returned (.int .i64 0) /\ Wr w' F' p (l ++ m) /\ Stp F F' w w'
def PutR (F : List Nat) (p : Nat) (l m : List UInt8) (w : World) (e : Ending) (w' : World) : Prop := ∃ F', e = .returned (.tuple #[]) /\ Wr w' F' p (l ++ m) /\ Stp F F' w w'
theorem wN {w : World} {F : List Nat} {p : Nat} {l : List UInt8} (h : Wr w F p l) (n k : Nat) (hk1 : 1 <= k) (hk : k <= 2) (hn : n < 256 ^ k) (hl : l.length + k <= 65536) : Calls Tryz.prog 97 #[.pointer (some ⟨p, 0, none⟩), .int .u64 n, .int .i64 k] w (NumR F p l (numB k n) w) := by
 refine (wire_Number h (by omega) n k hk1 hk hn).mono ?_
 rintro e w' ⟨ok, F', hok, rfl, hw, hs⟩
 have : ok = true := by rw [hok]; unfold fits; rw [decide_eq_true_eq, numB_len]; exact hl
 subst this;exact ⟨F', rfl, by simpa using hw, hs⟩
theorem wT {w : World} {F : List Nat} {p : Nat} {l : List UInt8} (h : Wr w F p l) (s : List UInt8) (hs : s.length <= 65535) (hl : l.length + (2 + s.length) <= 65536) : Calls Tryz.prog 93 #[.pointer (some ⟨p, 0, none⟩), .string ⟨s.toArray⟩] w (NumR F p l (txtB s) w) := by
 refine (wire_Text h (by omega) s (by omega)).mono ?_
 rintro e w' ⟨ok, F', hok, rfl, hw, hs'⟩
 have : ok = true := by rw [hok]; unfold fits; rw [Bool.and_eq_true, decide_eq_true_eq, decide_eq_true_eq, txtB_len]; exact ⟨hs, hl⟩
 subst this;exact ⟨F', rfl, by simpa using hw, hs'⟩
theorem wB {w : World} {F : List Nat} {p : Nat} {l : List UInt8} (h : Wr w F p l) (b : Bool) (hl : l.length + 1 <= 65536) : Calls Tryz.prog 127 #[.pointer (some ⟨p, 0, none⟩), .bool b] w (NumR F p l (numB 1 (bitN b 1)) w) := by
 have C := hid (wN h (bitN b 1) 1 (by decide) (by decide) (by cases b <;> decide) hl)
 clear h hl;cases b with
 | true =>
  have C : Hid (Calls Tryz.prog 97 #[.pointer (some ⟨p, 0, none⟩), .int .u64 1, .int .i64 1] w (NumR F p l (numB 1 (bitN true 1)) w)) := C
  go_enter Tryz.func127, Tryz.ntmps127
  go_wp2_with fail
  refine C.out.mono ?_
  rintro e w1 ⟨F1, rfl, hw1, hs1⟩
  have H := hid (show NumR F p l (numB 1 (bitN true 1)) w (.returned (.int .i64 0)) w1 from ⟨F1, rfl, hw1, hs1⟩)
  clear hw1 hs1;go_wp2_with fail
  go_ret
  exact H.out
 | false =>
  have C : Hid (Calls Tryz.prog 97 #[.pointer (some ⟨p, 0, none⟩), .int .u64 0, .int .i64 1] w (NumR F p l (numB 1 (bitN false 1)) w)) := C
  go_enter Tryz.func127, Tryz.ntmps127
  go_wp2_with fail
  refine C.out.mono ?_
  rintro e w1 ⟨F1, rfl, hw1, hs1⟩
  have H := hid (show NumR F p l (numB 1 (bitN false 1)) w (.returned (.int .i64 0)) w1 from ⟨F1, rfl, hw1, hs1⟩)
  clear hw1 hs1;go_wp2_with fail
  go_ret
  exact H.out
theorem pk_writeAck (p : Pk) (h : H3) {w : World} {F : List Nat} {q : Nat} {l : List UInt8} (hW : Wr w F q l) (hc : 0 <= p.code /\ p.code < 256) (hl : l.length + 2 <= 65536) :
  Calls Tryz.prog 126 #[.pointer (some ⟨q, 0, none⟩), .agg (p.cells h).toArray] w (PutR F q l (numB 1 (bitN p.present 1) ++ numB 1 p.code.toNat) w) := by
 obtain ⟨pc, hpc⟩ : ∃ pc, (p.cells h).toArray = pc := ⟨_, rfl⟩
 obtain ⟨W0, hW0⟩ : ∃ W0, w.alloc (.cells pc 52) = W0 := ⟨_, rfl⟩
 have hb0 : Below w.heap.size w W0 := by rw [<- hW0]; exact (Below.refl _ _).alloc (Nat.le_refl _) _
 have P0 : Blk W0 w.heap.size pc 52 := by rw [<- hW0]; exact Blk.new _ _ _
 have S0 := Stp.below (F := F) hb0
 have HW0 := hW.below hb0
 have hF : ∀ x ∈ F, x < w.heap.size := hW.lt
 rw [hpc]
 have k19 : W0.cell? ⟨w.heap.size, 19, none⟩ = some (.bool p.present) := by rw [P0.cell, <- hpc]; rfl
 have kc : Hid (∀ W, Blk W w.heap.size pc 52 -> W.cell? ⟨w.heap.size, 20, none⟩ = some (.int .i64 p.code)) := hid fun W hb => by rw [hb.cell, <- hpc]; rfl
 have C1 := hid (wB HW0 p.present (by omega))
 obtain ⟨b, hb⟩ : ∃ b, p.present = b := ⟨_, rfl⟩
 obtain ⟨c, hcc⟩ := Int.eq_ofNat_of_zero_le hc.1
 rw [hb] at k19 C1 ⊢
 rw [hcc] at kc hc ⊢
 have hc1 : c < 256 := by omega
 rw [show ((c : Nat) : Int).toNat = c from rfl]
 replace P0 := hid P0;replace S0 := hid S0;replace hF := hid hF;clear hpc hb0 HW0 hc hcc hb hW;go_enter Tryz.func126, Tryz.ntmps126
 go_wp2_with fail
 refine C1.out.mono ?_
 rintro e w1 ⟨F1, rfl, hw1, hs1⟩
 have P1 := P0.out.keepW hs1.wrote (fun hm => by have := hF.out _ hm; omega)
 have k20 := kc.out _ P1
 have C2 := hid (wN hw1 c 1 (by decide) (by decide) (by omega) (by rw [List.length_append, numB_len]; omega))
 have S1 := hid (S0.out.trans hs1)
 obtain ⟨z, hz⟩ : ∃ z : Int, (c : Int) = z := ⟨_, rfl⟩
 have hz0 : 0 <= z := by omega
 have hz1 : z < 256 := by omega
 rw [hz] at k20 C2
 clear hw1 hs1 P1 hz;go_wp2_with fail
 refine C2.out.mono ?_
 rintro e w2 ⟨F2, rfl, hw2, hs2⟩
 have H := hid (show PutR F q l (numB 1 (bitN b 1) ++ numB 1 c) w (.returned (.tuple #[])) w2 from ⟨F2, rfl, by rw [<- List.append_assoc]; exact hw2, S1.out.trans hs2⟩)
 clear hw2 hs2;go_wp2_with fail
 go_end0
 exact H.out
theorem pk_writePub (p : Pk) (h : H3) {w : World} {F : List Nat} {q : Nat} {l : List UInt8} (hW : Wr w F q l) (ht : p.topic.length <= 65000) (hi : 0 < p.qos -> 0 <= p.id /\ p.id < 65536) (hl : l.length + (2 + p.topic.length) + 2 <= 65536) :
  Calls Tryz.prog 208 #[.pointer (some ⟨q, 0, none⟩), .agg (p.cells h).toArray] w (PutR F q l (txtB p.topic ++ (if 0 < p.qos then numB 2 p.id.toNat else [])) w) := by
 obtain ⟨pc, hpc⟩ : ∃ pc, (p.cells h).toArray = pc := ⟨_, rfl⟩
 obtain ⟨W0, hW0⟩ : ∃ W0, w.alloc (.cells pc 52) = W0 := ⟨_, rfl⟩
 have hb0 : Below w.heap.size w W0 := by rw [<- hW0]; exact (Below.refl _ _).alloc (Nat.le_refl _) _
 have P0 : Blk W0 w.heap.size pc 52 := by rw [<- hW0]; exact Blk.new _ _ _
 have S0 := Stp.below (F := F) hb0
 have HW0 := hW.below hb0
 have hF : ∀ x ∈ F, x < w.heap.size := hW.lt
 rw [hpc]
 have k4 : W0.cell? ⟨w.heap.size, 4, none⟩ = some (.string ⟨p.topic.toArray⟩) := by rw [P0.cell, <- hpc]; rfl
 have kc : Hid (∀ W, Blk W w.heap.size pc 52 -> W.cell? ⟨w.heap.size, 3, none⟩ = some (.int .i64 p.qos) /\ W.cell? ⟨w.heap.size, 6, none⟩ = some (.int .i64 p.id)) := hid fun W hb => ⟨by rw [hb.cell, <- hpc]; rfl, by rw [hb.cell, <- hpc]; rfl⟩
 have C1 := hid (wT HW0 p.topic (by omega) (by omega))
 obtain ⟨qs, hqs⟩ : ∃ z, p.qos = z := ⟨_, rfl⟩
 rw [hqs] at kc hi ⊢
 have hll := hid (show (l ++ txtB p.topic).length + 2 <= 65536 by rw [List.length_append, txtB_len]; omega)
 replace P0 := hid P0;replace S0 := hid S0;replace hF := hid hF;replace hi := hid hi;obtain ⟨m2, hm2⟩ : ∃ m, (if 0 < qs then numB 2 p.id.toNat else []) = m := ⟨_, rfl⟩
 rw [hm2]
 have hm2 := hid hm2;clear hpc hb0 HW0 hqs hW hl ht;go_enter Tryz.func208, Tryz.ntmps208
 go_wp2_with fail
 refine C1.out.mono ?_
 rintro e w1 ⟨F1, rfl, hw1, hs1⟩
 have P1 := P0.out.keepW hs1.wrote (fun hm => by have := hF.out _ hm; omega)
 obtain ⟨k3, k6⟩ := kc.out _ P1
 have S1 := hid (S0.out.trans hs1)
 clear hs1 P1;by_cases hq0 : 0 < qs
 ·obtain ⟨c, hcc⟩ := Int.eq_ofNat_of_zero_le (hi.out hq0).1
  have hc2 := (hi.out hq0).2
  have hm3 := hid hm2.out;rw [if_pos hq0, hcc, show ((c : Nat) : Int).toNat = c from rfl] at hm3
  rw [hcc] at k6 hc2
  have hc1 : c < 65536 := by omega
  have d : decide (0 < qs) = true := decide_eq_true hq0
  have C2 := hid (wN hw1 c 2 (by decide) (by decide) (by omega) hll.out)
  obtain ⟨z, hz⟩ : ∃ z : Int, (c : Int) = z := ⟨_, rfl⟩
  have hz0 : 0 <= z := by omega
  have hz1 : z < 65536 := by omega
  rw [hz] at k6 C2
  clear hw1 hz hcc hc2;go_wp2_with fail
  refine C2.out.mono ?_
  rintro e w2 ⟨F2, rfl, hw2, hs2⟩
  have H := hid (show PutR F q l (txtB p.topic ++ m2) w (.returned (.tuple #[])) w2 from ⟨F2, rfl, by rw [<- hm3.out, <- List.append_assoc]; exact hw2, S1.out.trans hs2⟩)
  clear hw2 hs2;go_wp2_with fail
  go_end0
  exact H.out
 ·have d : decide (0 < qs) = false := decide_eq_false hq0
  have hm3 := hid hm2.out;rw [if_neg hq0] at hm3
  have H := hid (show PutR F q l (txtB p.topic ++ m2) w (.returned (.tuple #[])) w1 from ⟨F1, rfl, by rw [<- hm3.out, List.append_nil]; exact hw1, S1.out⟩)
  clear hw1;go_wp2_with fail
  go_end0
  exact H.out
theorem pk_writeList (fw : FuncId) (b : Nat) (m : List UInt8) (p : Pk) (h : H3) {w : World} {F : List Nat} {q : Nat} {l : List UInt8} (hfw : fnC fw) (hW : Wr w F q l) (hb : Boxed w (b + 3) 147 (fnV fw #[])) (hbF : b + 3 ∉ F) (hi : 0 <= p.id /\ p.id < 65536) (hl : l.length + 2 <= 65536)
  (hc : ∀ W F1, Stp F F1 w W -> Wr W F1 q (l ++ numB 2 p.id.toNat) -> Calls Tryz.prog fw #[.pointer (some ⟨q, 0, none⟩), .agg (p.cells h).toArray] W (PutR F1 q (l ++ numB 2 p.id.toNat) m W)) :
  Calls Tryz.prog 186 #[.pointer (some ⟨q, 0, none⟩), .agg (p.cells h).toArray, .pointer (some ⟨b + 3, 0, none⟩)] w (PutR F q l (numB 2 p.id.toNat ++ m) w) := by
 rw [show (p.cells h).toArray = (p.cells h).toArray from rfl] at hc
 obtain ⟨pc, hpc⟩ : ∃ pc, (p.cells h).toArray = pc := ⟨_, rfl⟩
 rw [hpc] at hc
 obtain ⟨W0, hW0⟩ : ∃ W0, w.alloc (.cells pc 52) = W0 := ⟨_, rfl⟩
 have hb0 : Below w.heap.size w W0 := by rw [<- hW0]; exact (Below.refl _ _).alloc (Nat.le_refl _) _
 have P0 : Blk W0 w.heap.size pc 52 := by rw [<- hW0]; exact Blk.new _ _ _
 have S0 := Stp.below (F := F) hb0
 have HW0 := hW.below hb0
 have hF : ∀ x ∈ F, x < w.heap.size := hW.lt
 have X0 := hid (boxed_below hb hb0)
 rw [hpc]
 have k6 : W0.cell? ⟨w.heap.size, 6, none⟩ = some (.int .i64 p.id) := by rw [P0.cell, <- hpc]; rfl
 have ic : Hid ((Tryz.prog.info? 52).map (·.size) = some pc.size) := hid (by rw [<- hpc]; exact (by kernel_rfl : (Tryz.prog.info? 52).map (·.size) = some 24))
 obtain ⟨c, hcc⟩ := Int.eq_ofNat_of_zero_le hi.1
 have hc2 := hi.2
 rw [hcc] at k6 hc hc2 ⊢
 have hc1 : c < 65536 := by omega
 rw [show ((c : Nat) : Int).toNat = c from rfl] at hc ⊢
 have C1 := hid (wN HW0 c 2 (by decide) (by decide) (by omega) hl)
 obtain ⟨z, hz⟩ : ∃ z : Int, (c : Int) = z := ⟨_, rfl⟩
 have hz0 : 0 <= z := by omega
 have hz1 : z < 65536 := by omega
 rw [hz] at k6 C1
 replace P0 := hid P0;replace S0 := hid S0;replace hF := hid hF;replace hc := hid hc;unfold fnC at hfw
 clear hpc hb0 HW0 hi hcc hW hl hz hc2 hb;go_enter Tryz.func186, Tryz.ntmps186
 go_wp2_with fail
 refine C1.out.mono ?_
 rintro e w1 ⟨F1, rfl, hw1, hs1⟩
 have P1 := P0.out.keepW hs1.wrote (fun hm => by have := hF.out _ hm; omega)
 have k3 : w1.cell? ⟨b + 3, 0, none⟩ = some (fnV fw #[]) := (hs1.wrote.boxed hbF X0.out).cell
 have S1 := hid (S0.out.trans hs1)
 have CC := hid (hc.out w1 F1 S1.out hw1)
 unfold fnV at k3
 clear hw1 hs1;go_wp2_with (refine wL 52 rfl rfl P1 Tryz.underlying52 ?_ rfl rfl ic.out)
 refine CC.out.mono ?_
 rintro e w2 ⟨F2, rfl, hw2, hs2⟩
 have H := hid (show PutR F q l (numB 2 c ++ m) w (.returned (.tuple #[])) w2 from ⟨F2, rfl, by rw [<- List.append_assoc]; exact hw2, S1.out.trans hs2⟩)
 clear hw2 hs2;go_wp2_with fail
 go_end0
 exact H.out
theorem pk_writeAns (v : Array Value) {w : World} {F : List Nat} {q : Nat} {l : List UInt8} (hW : Wr w F q l) : Calls Tryz.prog 213 #[.pointer (some ⟨q, 0, none⟩), .agg v] w (PutR F q l [] w) := by
 have hb : Below w.heap.size w (w.alloc (.cells v 52)) := (Below.refl _ _).alloc (Nat.le_refl _) _
 have H := hid (show PutR F q l [] w (.returned (.tuple #[])) (w.alloc (.cells v 52)) from ⟨F, rfl, by rw [List.append_nil]; exact hW.below hb, Stp.below hb⟩)
 clear hW hb;go_enter Tryz.func213, Tryz.ntmps213
 go_wp2_with fail
 go_end0
 exact H.out
end
section
attribute [local go_sem] Oper.semAt_some
theorem flat_take_le {α : Type} (enc : α -> List UInt8) (xs : List α) (j : Nat) : ((xs.take j).flatMap enc).length <= (xs.flatMap enc).length := by
 conv => rhs; rw [<- List.take_append_drop j xs, List.flatMap_append, List.length_append]
 omega
theorem pk_writeFil (p : Pk) (h : H3) {w : World} {F : List Nat} {q : Nat} {l : List UInt8} (hW : Wr w F q l) (hin : LsN sCl 1 w h.f p.filters F) (hn : p.filters.length <= 1000) (hx : ∀ x ∈ p.filters, x.length <= 65535) (hl : l.length + (p.filters.flatMap (txtB)).length <= 65536) :
  Calls Tryz.prog 153 #[.pointer (some ⟨q, 0, none⟩), .agg (p.cells h).toArray] w (PutR F q l (p.filters.flatMap (txtB)) w) := by
 obtain ⟨pc, hpc⟩ : ∃ pc, (p.cells h).toArray = pc := ⟨_, rfl⟩
 obtain ⟨W0, hW0⟩ : ∃ W0, w.alloc (.cells pc 52) = W0 := ⟨_, rfl⟩
 have hb0 : Below w.heap.size w W0 := by rw [<- hW0]; exact (Below.refl _ _).alloc (Nat.le_refl _) _
 have P0 : Blk W0 w.heap.size pc 52 := by rw [<- hW0]; exact Blk.new _ _ _
 have S0 := Stp.below (F := F) hb0
 have HW0 := hW.below hb0
 have hF : ∀ x ∈ F, x < w.heap.size := hW.lt
 rw [hpc]
 obtain ⟨xs, hxs⟩ : ∃ xs, p.filters = xs := ⟨_, rfl⟩
 obtain ⟨n, hhn⟩ : ∃ n, h.f.n = n := ⟨_, rfl⟩
 have k7 : W0.cell? ⟨w.heap.size, 23, none⟩ = some (.slice h.f.a n h.f.c) := by rw [P0.cell, <- hpc, <- hhn]; rfl
 rw [hxs] at hin hn hx hl ⊢
 have HL : Hid (xs.length = n) := hid (by rw [<- hhn]; exact hin.at'.len)
 have hn : n <= 1000 := by rw [<- HL.out]; exact hn
 have HV := hid hin;have hx := hid hx;have hl := hid hl;have hlt := hid hF;replace P0 := hid P0;have HW0 := hid HW0;have S0 := hid S0;have hB0 := hid hb0;obtain ⟨aa, haa⟩ : ∃ a, h.f.a = a := ⟨_, rfl⟩
 obtain ⟨cc, hcc⟩ : ∃ c, h.f.c = c := ⟨_, rfl⟩
 rw [haa, hcc] at k7
 have haa := hid haa;clear hpc hF hin hxs hhn hW hcc hb0;go_enter Tryz.func153, Tryz.ntmps153
 go_wp2_with fail
 go_loopw [9] (fun i wr => ∃ (j : Nat) (F1 : List Nat), i = .int .i64 j /\ j <= n /\ Hid (Wr wr F1 q (l ++ (xs.take j).flatMap (txtB))) /\ Hid (Stp F F1 w wr)) (fun i _ => n - (intOf i).toNat)
 case atStart => exact ⟨0, F, by go_num, Nat.zero_le _, by simpa using HW0, S0⟩
 case round =>
  obtain ⟨j, F1, rfl, hj, hWr, hS⟩ := hrel
  by_cases hjn : j < n
  ·obtain ⟨x, hxj⟩ : ∃ x, xs[j]? = some x := ⟨_, List.getElem?_eq_getElem (by rw [HL.out]; exact hjn)⟩
   obtain ⟨b, off, ha, hbl, hrg⟩ := HV.out.at'.at' j x hxj
   have hblk : wr.heap[b]? = w.heap[b]? := hS.out.wrote.block b hbl (HV.out.off (List.ne_nil_of_mem (List.mem_of_getElem? hxj)) _ ha)
   have hgood := hid (hx.out x (List.mem_of_getElem? hxj))
   have hsn : Hid ((xs.take (j + 1)).flatMap (txtB) = (xs.take j).flatMap (txtB) ++ (txtB) x) := hid (by
    rw [List.take_add_one, hxj, List.flatMap_append]
    simp)
   have hfit : Hid ((l ++ (xs.take j).flatMap (txtB)).length + ((txtB) x).length <= 65536) := hid (by
    have h1 := flat_take_le (txtB) xs (j + 1)
    rw [hsn.out, List.length_append] at h1
    have h2 := hl.out
    rw [List.length_append]
    omega)
   rw [haa.out] at ha
   have hcell : wr.cell? ⟨b, off + j, none⟩ = some (.string ⟨x.toArray⟩) := by
    have h1 := hrg 0 (.string ⟨x.toArray⟩) rfl
    unfold World.cell? at h1 ⊢
    rw [hblk]
    simpa using h1
   subst ha;clear hrg hbl hblk hxj;have C1 := hid (wT hWr.out x hgood.out (by have := hfit.out; rw [txtB_len] at this; omega))
   go_wp2_with fail
   refine C1.out.mono ?_
   rintro e w1 ⟨F2, rfl, hw1, hs1⟩
   have HW1 : Hid (Wr w1 F2 q (l ++ (xs.take (j + 1)).flatMap (txtB))) := hid (by rw [hsn.out, <- List.append_assoc]; exact hw1)
   have HS1 := hid (hS.out.trans hs1)
   clear hw1 hs1;go_wp2_with fail
   go_roundw
   case rel => exact ⟨j + 1, F2, by go_num, by omega, HW1, HS1⟩
   case measure => simp [intOf]; omega
  ·obtain rfl : j = n := by omega
   rw [List.take_of_length_le (by rw [HL.out]; exact Nat.le_refl _)] at hWr
   have H := hid (show PutR F q l (xs.flatMap (txtB)) w (.returned (.tuple #[])) wr from ⟨F1, rfl, hWr.out, hS.out⟩)
   clear hWr;go_wp2_with fail
   go_end0
   exact H.out
theorem pk_writeCod (p : Pk) (h : H3) {w : World} {F : List Nat} {q : Nat} {l : List UInt8} (hW : Wr w F q l) (hin : LsN iCl 1 w h.c p.codes F) (hn : p.codes.length <= 1000) (hx : ∀ x ∈ p.codes, 0 <= x /\ x < 256) (hl : l.length + (p.codes.flatMap (fun c => numB 1 c.toNat)).length <= 65536) :
  Calls Tryz.prog 146 #[.pointer (some ⟨q, 0, none⟩), .agg (p.cells h).toArray] w (PutR F q l (p.codes.flatMap (fun c => numB 1 c.toNat)) w) := by
 obtain ⟨pc, hpc⟩ : ∃ pc, (p.cells h).toArray = pc := ⟨_, rfl⟩
 obtain ⟨W0, hW0⟩ : ∃ W0, w.alloc (.cells pc 52) = W0 := ⟨_, rfl⟩
 have hb0 : Below w.heap.size w W0 := by rw [<- hW0]; exact (Below.refl _ _).alloc (Nat.le_refl _) _
 have P0 : Blk W0 w.heap.size pc 52 := by rw [<- hW0]; exact Blk.new _ _ _
 have S0 := Stp.below (F := F) hb0
 have HW0 := hW.below hb0
 have hF : ∀ x ∈ F, x < w.heap.size := hW.lt
 rw [hpc]
 obtain ⟨xs, hxs⟩ : ∃ xs, p.codes = xs := ⟨_, rfl⟩
 obtain ⟨n, hhn⟩ : ∃ n, h.c.n = n := ⟨_, rfl⟩
 have k7 : W0.cell? ⟨w.heap.size, 22, none⟩ = some (.slice h.c.a n h.c.c) := by rw [P0.cell, <- hpc, <- hhn]; rfl
 rw [hxs] at hin hn hx hl ⊢
 have HL : Hid (xs.length = n) := hid (by rw [<- hhn]; exact hin.at'.len)
 have hn : n <= 1000 := by rw [<- HL.out]; exact hn
 have HV := hid hin;have hx := hid hx;have hl := hid hl;have hlt := hid hF;replace P0 := hid P0;have HW0 := hid HW0;have S0 := hid S0;have hB0 := hid hb0;obtain ⟨aa, haa⟩ : ∃ a, h.c.a = a := ⟨_, rfl⟩
 obtain ⟨cc, hcc⟩ : ∃ c, h.c.c = c := ⟨_, rfl⟩
 rw [haa, hcc] at k7
 have haa := hid haa;clear hpc hF hin hxs hhn hW hcc hb0;go_enter Tryz.func146, Tryz.ntmps146
 go_wp2_with fail
 go_loopw [9] (fun i wr => ∃ (j : Nat) (F1 : List Nat), i = .int .i64 j /\ j <= n /\ Hid (Wr wr F1 q (l ++ (xs.take j).flatMap (fun c => numB 1 c.toNat))) /\ Hid (Stp F F1 w wr)) (fun i _ => n - (intOf i).toNat)
 case atStart => exact ⟨0, F, by go_num, Nat.zero_le _, by simpa using HW0, S0⟩
 case round =>
  obtain ⟨j, F1, rfl, hj, hWr, hS⟩ := hrel
  by_cases hjn : j < n
  ·obtain ⟨x, hxj⟩ : ∃ x, xs[j]? = some x := ⟨_, List.getElem?_eq_getElem (by rw [HL.out]; exact hjn)⟩
   obtain ⟨b, off, ha, hbl, hrg⟩ := HV.out.at'.at' j x hxj
   have hblk : wr.heap[b]? = w.heap[b]? := hS.out.wrote.block b hbl (HV.out.off (List.ne_nil_of_mem (List.mem_of_getElem? hxj)) _ ha)
   have hgood := hid (hx.out x (List.mem_of_getElem? hxj))
   have hsn : Hid ((xs.take (j + 1)).flatMap (fun c => numB 1 c.toNat) = (xs.take j).flatMap (fun c => numB 1 c.toNat) ++ (fun c => numB 1 c.toNat) x) := hid (by
    rw [List.take_add_one, hxj, List.flatMap_append]
    simp)
   have hfit : Hid ((l ++ (xs.take j).flatMap (fun c => numB 1 c.toNat)).length + ((fun c => numB 1 c.toNat) x).length <= 65536) := hid (by
    have h1 := flat_take_le (fun c => numB 1 c.toNat) xs (j + 1)
    rw [hsn.out, List.length_append] at h1
    have h2 := hl.out
    rw [List.length_append]
    omega)
   rw [haa.out] at ha
   obtain ⟨c, hcx⟩ := Int.eq_ofNat_of_zero_le hgood.out.1
   subst hcx;have hc1 : c < 256 := by have := hgood.out.2; omega
   have hcell : wr.cell? ⟨b, off + j, none⟩ = some (.int .i64 (c : Int)) := by
    have h1 := hrg 0 (.int .i64 (c : Int)) rfl
    unfold World.cell? at h1 ⊢
    rw [hblk]
    simpa using h1
   subst ha;clear hrg hbl hblk hxj;have C1 := hid (wN hWr.out c 1 (by decide) (by decide) (by omega) (by have := hfit.out; rw [numB_len] at this; omega))
   have hsn : Hid ((xs.take (j + 1)).flatMap (fun c => numB 1 c.toNat) = (xs.take j).flatMap (fun c => numB 1 c.toNat) ++ numB 1 c) := hsn
   obtain ⟨z, hz⟩ : ∃ z : Int, (c : Int) = z := ⟨_, rfl⟩
   have hz0 : 0 <= z := by omega
   have hz1 : z < 256 := by omega
   rw [hz] at hcell C1
   replace hfit := hid hl.out;replace hgood := hid hl.out;clear hz;go_wp2_with fail
   refine C1.out.mono ?_
   rintro e w1 ⟨F2, rfl, hw1, hs1⟩
   have HW1 : Hid (Wr w1 F2 q (l ++ (xs.take (j + 1)).flatMap (fun c => numB 1 c.toNat))) := hid (by rw [hsn.out, <- List.append_assoc]; exact hw1)
   have HS1 := hid (hS.out.trans hs1)
   clear hw1 hs1;go_wp2_with fail
   go_roundw
   case rel => exact ⟨j + 1, F2, by go_num, by omega, HW1, HS1⟩
   case measure => simp [intOf]; omega
  ·obtain rfl : j = n := by omega
   rw [List.take_of_length_le (by rw [HL.out]; exact Nat.le_refl _)] at hWr
   have H := hid (show PutR F q l (xs.flatMap (fun c => numB 1 c.toNat)) w (.returned (.tuple #[])) wr from ⟨F1, rfl, hWr.out, hS.out⟩)
   clear hWr;go_wp2_with fail
   go_end0
   exact H.out
theorem pk_writeWan (p : Pk) (h : H3) {w : World} {F : List Nat} {q : Nat} {l : List UInt8} (hW : Wr w F q l) (hin : LsN WantV.cl 2 w h.w p.wants F) (hn : p.wants.length <= 1000) (hx : ∀ x ∈ p.wants, x.filter.length <= 65535 /\ 0 <= x.qos /\ x.qos < 256) (hl : l.length + (p.wants.flatMap (wantB)).length <= 65536) :
  Calls Tryz.prog 137 #[.pointer (some ⟨q, 0, none⟩), .agg (p.cells h).toArray] w (PutR F q l (p.wants.flatMap (wantB)) w) := by
 obtain ⟨pc, hpc⟩ : ∃ pc, (p.cells h).toArray = pc := ⟨_, rfl⟩
 obtain ⟨W0, hW0⟩ : ∃ W0, w.alloc (.cells pc 52) = W0 := ⟨_, rfl⟩
 have hb0 : Below w.heap.size w W0 := by rw [<- hW0]; exact (Below.refl _ _).alloc (Nat.le_refl _) _
 have P0 : Blk W0 w.heap.size pc 52 := by rw [<- hW0]; exact Blk.new _ _ _
 have S0 := Stp.below (F := F) hb0
 have HW0 := hW.below hb0
 have hF : ∀ x ∈ F, x < w.heap.size := hW.lt
 rw [hpc]
 obtain ⟨xs, hxs⟩ : ∃ xs, p.wants = xs := ⟨_, rfl⟩
 obtain ⟨n, hhn⟩ : ∃ n, h.w.n = n := ⟨_, rfl⟩
 have k7 : W0.cell? ⟨w.heap.size, 21, none⟩ = some (.slice h.w.a n h.w.c) := by rw [P0.cell, <- hpc, <- hhn]; rfl
 rw [hxs] at hin hn hx hl ⊢
 have HL : Hid (xs.length = n) := hid (by rw [<- hhn]; exact hin.at'.len)
 have hn : n <= 1000 := by rw [<- HL.out]; exact hn
 have HV := hid hin;have hx := hid hx;have hl := hid hl;have hlt := hid hF;replace P0 := hid P0;have HW0 := hid HW0;have S0 := hid S0;have hB0 := hid hb0;obtain ⟨aa, haa⟩ : ∃ a, h.w.a = a := ⟨_, rfl⟩
 obtain ⟨cc, hcc⟩ : ∃ c, h.w.c = c := ⟨_, rfl⟩
 rw [haa, hcc] at k7
 have haa := hid haa;clear hpc hF hin hxs hhn hW hcc hb0;go_enter Tryz.func137, Tryz.ntmps137
 go_wp2_with fail
 go_loopw [9] (fun i wr => ∃ (j : Nat) (F1 : List Nat), i = .int .i64 j /\ j <= n /\ Hid (Wr wr F1 q (l ++ (xs.take j).flatMap (wantB))) /\ Hid (Stp F F1 w wr)) (fun i _ => n - (intOf i).toNat)
 case atStart => exact ⟨0, F, by go_num, Nat.zero_le _, by simpa using HW0, S0⟩
 case round =>
  obtain ⟨j, F1, rfl, hj, hWr, hS⟩ := hrel
  by_cases hjn : j < n
  ·obtain ⟨x, hxj⟩ : ∃ x, xs[j]? = some x := ⟨_, List.getElem?_eq_getElem (by rw [HL.out]; exact hjn)⟩
   obtain ⟨b, off, ha, hbl, hrg⟩ := HV.out.at'.at' j x hxj
   have hblk : wr.heap[b]? = w.heap[b]? := hS.out.wrote.block b hbl (HV.out.off (List.ne_nil_of_mem (List.mem_of_getElem? hxj)) _ ha)
   have hgood := hid (hx.out x (List.mem_of_getElem? hxj))
   have hsn : Hid ((xs.take (j + 1)).flatMap (wantB) = (xs.take j).flatMap (wantB) ++ (wantB) x) := hid (by
    rw [List.take_add_one, hxj, List.flatMap_append]
    simp)
   have hfit : Hid ((l ++ (xs.take j).flatMap (wantB)).length + ((wantB) x).length <= 65536) := hid (by
    have h1 := flat_take_le (wantB) xs (j + 1)
    rw [hsn.out, List.length_append] at h1
    have h2 := hl.out
    rw [List.length_append]
    omega)
   rw [haa.out] at ha
   have hcl : wr.rangeAt b (off + j * 2) x.cl := fun i v hi => by
    have h1 := hrg i v hi
    unfold World.cell? at h1 ⊢
    rw [hblk]
    exact h1
   subst ha;obtain ⟨fl, qo⟩ := x
   obtain ⟨c, hcx⟩ := Int.eq_ofNat_of_zero_le hgood.out.2.1
   have hcx : qo = (c : Int) := hcx
   subst hcx;have hc1 : c < 256 := by have h9 := hgood.out.2.2; have h9 : (c : Int) < 256 := h9; omega
   have hflt : Hid (fl.length <= 65535) := hid hgood.out.1
   have hsn : Hid ((xs.take (j + 1)).flatMap wantB = (xs.take j).flatMap wantB ++ (txtB fl ++ numB 1 c)) := hsn
   have hfit : Hid ((l ++ (xs.take j).flatMap wantB).length + ((2 + fl.length) + 1) <= 65536) := hid (by have h9 := hfit.out; rw [show (wantB ⟨fl, (c : Int)⟩).length = 2 + fl.length + 1 by show (txtB fl ++ numB 1 c).length = _; rw [List.length_append, txtB_len, numB_len]] at h9; exact h9)
   obtain ⟨z, hz⟩ : ∃ z : Int, (c : Int) = z := ⟨_, rfl⟩
   have hz0 : 0 <= z := by omega
   have hz1 : z < 256 := by omega
   have hcl : wr.rangeAt b (off + j * 2) [.string ⟨fl.toArray⟩, .int .i64 z] := by rw [<- hz]; exact hcl
   have hone : Hid (∀ v ∈ #[Value.string ⟨fl.toArray⟩, .int .i64 z].toList, v.oneCell' = true) := hid (by simp [Value.oneCell'])
   have hz := hid hz;clear hrg hbl hblk hxj hgood
   go_upto_region 4 with (first
    | (refine wLm 169 rfl rfl hcl Tryz.underlying169 ?_)
    | (refine wS 169 2 rfl _ _ #[.string ⟨fl.toArray⟩, .int .i64 z] rfl rfl (Blk.new _ _ _) rfl (by rfl) hone.out ?_; intro w3 hw3 hr3))
   have b3 : Below wr.heap.size wr w3 := ((Below.refl _ _).alloc (Nat.le_refl _) _).trans (hr3.below (by simp) (by simp))
   have hs3 : wr.heap.size + 1 <= w3.heap.size := by have := hr3.size; simp at this; omega
   have W3 := hWr.out.below b3
   have S3 := hid (hS.out.trans (Stp.below (F := F1) b3))
   have hF1 := hid hWr.out.lt;have k0 : w3.cell? ⟨wr.heap.size, 0, none⟩ = some (.string ⟨fl.toArray⟩) := hw3.cell 0
   have C1 := hid (wT W3 fl hflt.out (by have := hfit.out; omega))
   have Y3 := hid hw3;clear hr3 b3 hcl W3 hw3;try simp only [PT]
   go_wp2_with fail
   refine C1.out.mono ?_
   rintro e w4 ⟨F2, rfl, hw4, hs4⟩
   have k1 : w4.cell? ⟨wr.heap.size, 1, none⟩ = some (.int .i64 z) := (Y3.out.keepW hs4.wrote (fun hm => by have := hF1.out _ hm; omega)).cell 1
   have C2 := hid (wN hw4 c 1 (by decide) (by decide) (by omega) (by rw [List.length_append, txtB_len]; have := hfit.out; omega))
   rw [hz.out] at C2
   have S4 := hid (S3.out.trans hs4)
   clear hw4 hs4 k0;go_wp2_with fail
   refine C2.out.mono ?_
   rintro e w5 ⟨F3, rfl, hw5, hs5⟩
   have HW1 : Hid (Wr w5 F3 q (l ++ (xs.take (j + 1)).flatMap wantB)) := hid (by rw [hsn.out, <- List.append_assoc, <- List.append_assoc, List.append_assoc l]; rw [List.append_assoc l] at hw5; exact hw5)
   have HS1 := hid (S4.out.trans hs5)
   clear hw5 hs5 k1;go_wp2_with fail
   go_roundw
   case rel => exact ⟨j + 1, F3, by go_num, by omega, HW1, HS1⟩
   case measure => simp [intOf]; omega
  ·obtain rfl : j = n := by omega
   rw [List.take_of_length_le (by rw [HL.out]; exact Nat.le_refl _)] at hWr
   have H := hid (show PutR F q l (xs.flatMap (wantB)) w (.returned (.tuple #[])) wr from ⟨F1, rfl, hWr.out, hS.out⟩)
   clear hWr;go_wp2_with fail
   go_end0
   exact H.out
end
section
attribute [local go_sem] Oper.semAt_some
def headC (p : Pk) : List UInt8 := txtB mqtt ++ (numB 1 4 ++ (numB 1 (connN p) ++ (numB 2 p.keep.toNat ++ txtB p.client)))
def itemsC (p : Pk) : List (Bool × List UInt8) := [(p.hasWill, p.will.topic), (p.hasWill, p.will.body), (p.hasUser, p.user), (p.hasPass, p.pass)]
def itemB (x : Bool × List UInt8) : List UInt8 := if x.1 then txtB x.2 else []
def itemV (x : Bool × List UInt8) : List Value := [.bool x.1, .string ⟨x.2.toArray⟩]
theorem bodyC_eq (p : Pk) (hk : p.kind = 1) : bodyP p = headC p ++ (itemsC p).flatMap itemB := by
 unfold bodyP headC itemsC itemB
 rw [if_pos hk]
 cases p.hasWill <;> cases p.hasUser <;> cases p.hasPass <;> simp
structure CwI (F : List Nat) (q : Nat) (l : List UInt8) (w : World) (pc : Array Value) (m : List UInt8) (F1 : List Nat) (W : World) : Prop where
 wr : Wr W F1 q (l ++ m)
 stp : Stp F F1 w W
 pk : Blk W w.heap.size pc 52
 off : w.heap.size ∉ F1
theorem CwI.step {F : List Nat} {q : Nat} {l : List UInt8} {w : World} {pc : Array Value} {m m' : List UInt8} {F1 F2 : List Nat} {W W' : World} (h : CwI F q l w pc m F1 W) (hw : Wr W' F2 q (l ++ m ++ m')) (hs : Stp F1 F2 W W') : CwI F q l w pc (m ++ m') F2 W' :=
 ⟨by rw [<- List.append_assoc]; exact hw, h.stp.trans hs, h.pk.keepW hs.wrote h.off, hs.not h.off h.pk.lt⟩
theorem CwI.below {F : List Nat} {q : Nat} {l : List UInt8} {w : World} {pc : Array Value} {m : List UInt8} {F1 : List Nat} {W W' : World} (h : CwI F q l w pc m F1 W) (hb : Below W.heap.size W W') : CwI F q l w pc m F1 W' :=
 ⟨h.wr.below hb, h.stp.trans (Stp.below hb), h.pk.below hb, h.off⟩
theorem pk_writeCon (p : Pk) (h : H3) {w : World} {F : List Nat} {q : Nat} {l : List UInt8} (hW : Wr w F q l) (hN : connN p < 256) (hk : 0 <= p.keep /\ p.keep < 65536) (hq : 0 <= p.will.qos /\ p.will.qos <= 3) (hcl : p.client.length <= 65535) (hx : ∀ x ∈ itemsC p, x.2.length <= 65535) (hl : l.length + (headC p).length + ((itemsC p).flatMap itemB).length <= 65536) :
  Calls Tryz.prog 201 #[.pointer (some ⟨q, 0, none⟩), .agg (p.cells h).toArray] w (PutR F q l (headC p ++ (itemsC p).flatMap itemB) w) := by
 have hhl : (headC p).length = 6 + (1 + (1 + (2 + (2 + p.client.length)))) := by
  unfold headC
  rw [List.length_append, List.length_append, List.length_append, List.length_append, txtB_len, txtB_len, numB_len, numB_len, numB_len]
  rfl
 rw [hhl] at hl
 obtain ⟨pc, hpc⟩ : ∃ pc, (p.cells h).toArray = pc := ⟨_, rfl⟩
 obtain ⟨W0, hW0⟩ : ∃ W0, w.alloc (.cells pc 52) = W0 := ⟨_, rfl⟩
 have hb0 : Below w.heap.size w W0 := by rw [<- hW0]; exact (Below.refl _ _).alloc (Nat.le_refl _) _
 have P0 : Blk W0 w.heap.size pc 52 := by rw [<- hW0]; exact Blk.new _ _ _
 have S0 := Stp.below (F := F) hb0
 have HW0 := hW.below hb0
 have hF : ∀ x ∈ F, x < w.heap.size := hW.lt
 rw [hpc]
 have ic : Hid ((Tryz.prog.info? 52).map (·.size) = some pc.size) := hid (by rw [<- hpc]; exact (by kernel_rfl : (Tryz.prog.info? 52).map (·.size) = some 24))
 have CC := hid (fun W => pk_connects p h W hq)
 rw [hpc] at CC
 have HWx := hid HW0;replace P0 := hid P0;replace S0 := hid S0;replace hF := hid hF;replace hhl := hid hhl;obtain ⟨cn, hcn⟩ : ∃ c, connN p = c := ⟨_, rfl⟩
 rw [hcn] at hN CC
 have hcn := hid hcn;obtain ⟨cz, hcz⟩ : ∃ z : Int, (cn : Int) = z := ⟨_, rfl⟩
 rw [hcz] at CC
 have hz0 : 0 <= cz := by omega
 have hz1 : cz < 256 := by omega
 have hcz := hid hcz;obtain ⟨kk, hkk⟩ := Int.eq_ofNat_of_zero_le hk.1
 have hk2 : kk < 65536 := by omega
 have hkz : 0 <= p.keep := hk.1
 have hkz2 : p.keep < 65536 := hk.2
 have kc : Hid (∀ W, Blk W w.heap.size pc 52 -> W.cell? ⟨w.heap.size, 9, none⟩ = some (.int .i64 p.keep) /\ W.cell? ⟨w.heap.size, 7, none⟩ = some (.string ⟨p.client.toArray⟩) /\ W.cell? ⟨w.heap.size, 10, none⟩ = some (.bool p.hasWill) /\ W.cell? ⟨w.heap.size, 11, none⟩ = some (.string ⟨p.will.topic.toArray⟩) /\ W.cell? ⟨w.heap.size, 12, none⟩ = some (.string ⟨p.will.body.toArray⟩) /\ W.cell? ⟨w.heap.size, 15, none⟩ = some (.bool p.hasUser) /\ W.cell? ⟨w.heap.size, 17, none⟩ = some (.string ⟨p.user.toArray⟩) /\ W.cell? ⟨w.heap.size, 16, none⟩ = some (.bool p.hasPass) /\ W.cell? ⟨w.heap.size, 18, none⟩ = some (.string ⟨p.pass.toArray⟩)) := hid fun W hb => by
  rw [<- hpc] at hb
  exact ⟨hb.cell 9, hb.cell 7, hb.cell 10, hb.cell 11, hb.cell 12, hb.cell 15, hb.cell 17, hb.cell 16, hb.cell 18⟩
 replace hx := hid hx;clear hpc hb0 HW0 hW hk hq;have H0 := hid (show CwI F q l w pc [] F W0 from ⟨by rw [List.append_nil]; exact HWx.out, S0.out, P0.out, fun hm => by have := hF.out _ hm; omega⟩)
 obtain ⟨ln, hln⟩ : ∃ n, l.length = n := ⟨_, rfl⟩
 rw [hln] at hl
 have L0 : Hid ((l ++ ([] : List UInt8)).length = ln) := hid (by rw [List.append_nil, hln])
 obtain ⟨il, hil⟩ : ∃ n, ((itemsC p).flatMap itemB).length = n := ⟨_, rfl⟩
 rw [hil] at hl
 replace hil := hid hil;obtain ⟨kz, hkzz⟩ : ∃ z, p.keep = z := ⟨_, rfl⟩
 rw [hkzz] at kc hkz hkz2
 have hkeq : Hid ((kk : Int) = kz) := hid (by rw [<- hkzz]; exact hkk.symm)
 have hktn : Hid (p.keep.toNat = kk) := hid (by rw [hkk]; rfl)
 have C1 : Hid (Calls Tryz.prog 93 #[.pointer (some ⟨q, 0, none⟩), .string ⟨#[77, 81, 84, 84]⟩] W0 (NumR F q (l ++ []) (txtB mqtt) W0)) := hid (wT H0.out.wr mqtt (by decide) (by show (l ++ []).length + 6 <= 65536; rw [L0.out]; omega))
 clear S0 P0 hF HWx hln hkk hkzz;go_enter Tryz.func201, Tryz.ntmps201
 go_wp2_with fail
 refine C1.out.mono ?_
 rintro e w1 ⟨F1, rfl, hwx, hsx⟩
 have H1 := hid (H0.out.step hwx hsx)
 have L1 : Hid ((l ++ ([] ++ txtB mqtt)).length = ln + 6) := hid (by rw [<- List.append_assoc, List.length_append, L0.out]; rfl)
 clear hwx hsx;have C2 := hid (wN H1.out.wr 4 1 (by decide) (by decide) (by decide) (by rw [L1.out]; omega))
 go_wp2_with fail
 refine C2.out.mono ?_
 rintro e w2 ⟨F2, rfl, hwx, hsx⟩
 have H2 := hid (H1.out.step hwx hsx)
 have L2 : Hid ((l ++ (([] ++ txtB mqtt) ++ numB 1 4)).length = ln + 7) := hid (by rw [<- List.append_assoc, List.length_append, L1.out]; rw [numB_len])
 clear hwx hsx;have p2 := H2.out.pk
 have C3 := hid (CC w2)
 go_wp2_with (refine wL 52 rfl rfl p2 Tryz.underlying52 ?_ rfl rfl ic.out)
 refine C3.out.mono ?_
 rintro e w3 ⟨rfl, hb3⟩
 have H3' := hid (H2.out.below hb3)
 have C4 := hid (wN H3'.out.wr cn 1 (by decide) (by decide) (by omega) (by rw [L2.out]; omega))
 rw [hcz.out] at C4
 clear hb3 p2;go_wp2_with fail
 refine C4.out.mono ?_
 rintro e w4 ⟨F4, rfl, hwx, hsx⟩
 have H4 := hid (H3'.out.step hwx hsx)
 have L4 : Hid ((l ++ (([] ++ txtB mqtt ++ numB 1 4) ++ numB 1 cn)).length = ln + 8) := hid (by rw [<- List.append_assoc, List.length_append, L2.out]; rw [numB_len])
 clear hwx hsx;have k9 := (kc.out _ H4.out.pk).1
 have C5 := hid (wN H4.out.wr kk 2 (by decide) (by decide) (by omega) (by rw [L4.out]; omega))
 rw [hkeq.out] at C5
 go_wp2_with fail
 refine C5.out.mono ?_
 rintro e w5 ⟨F5, rfl, hwx, hsx⟩
 have H5 := hid (H4.out.step hwx hsx)
 have L5 : Hid ((l ++ (([] ++ txtB mqtt ++ numB 1 4 ++ numB 1 cn) ++ numB 2 kk)).length = ln + 10) := hid (by rw [<- List.append_assoc, List.length_append, L4.out]; rw [numB_len])
 clear hwx hsx;have k7 := (kc.out _ H5.out.pk).2.1
 have C6 := hid (wT H5.out.wr p.client hcl (by rw [L5.out]; omega))
 clear k9;go_wp2_with fail
 refine C6.out.mono ?_
 rintro e w6 ⟨F6, rfl, hwx, hsx⟩
 have H6 := hid (H5.out.step hwx hsx)
 have L6 : Hid ((l ++ (([] ++ txtB mqtt ++ numB 1 4 ++ numB 1 cn ++ numB 2 kk) ++ txtB p.client)).length = ln + 12 + p.client.length) := hid (by rw [<- List.append_assoc, List.length_append, L5.out]; rw [txtB_len]; omega)
 clear hwx hsx;clear k7;obtain ⟨-, -, k10, k11, k12, k15, k17, k16, k18⟩ := kc.out _ H6.out.pk
 go_upto_region 7 with fail
 obtain ⟨xs, hxs⟩ : ∃ xs, itemsC p = xs := ⟨_, rfl⟩
 obtain ⟨W7, hW7⟩ : ∃ W, w6.alloc (.cells #[.bool p.hasWill, .string ⟨p.will.topic.toArray⟩, .bool p.hasWill, .string ⟨p.will.body.toArray⟩, .bool p.hasUser, .string ⟨p.user.toArray⟩, .bool p.hasPass, .string ⟨p.pass.toArray⟩] 243) = W := ⟨_, rfl⟩
 have hL7 : LsAt itemV 2 W7 (some ⟨w6.heap.size, 0, none⟩) 4 4 xs := by
  rw [<- hW7, <- hxs]
  exact ls_of_own (f := itemV) (size := 2) (e := 243) (fun x => rfl) (World.ownsRow_lit w6 #[.bool p.hasWill, .string ⟨p.will.topic.toArray⟩, .bool p.hasWill, .string ⟨p.will.body.toArray⟩, .bool p.hasUser, .string ⟨p.user.toArray⟩, .bool p.hasPass, .string ⟨p.pass.toArray⟩] 4 (Nat.le_refl _) (by decide) rfl) rfl
 have HL : Hid (xs.length = 4) := hid (by rw [<- hxs]; rfl)
 have b7 : Below w6.heap.size w6 W7 := by rw [<- hW7]; exact (Below.refl _ _).alloc (Nat.le_refl _) _
 have H7 := hid (H6.out.below b7)
 have hg6 : Hid (w6.heap.size ∉ F6) := hid (fun hm => by have := H6.out.wr.lt _ hm; omega)
 obtain ⟨g, hg⟩ : ∃ g, w6.heap.size = g := ⟨_, rfl⟩
 rw [hg] at hL7 hg6 ⊢
 rw [hW7]
 rw [hxs] at hx hil
 have HV := hid hL7;have hxs := hid hxs;clear hL7 b7 hg hW7 k10 k11 k12 k15 k16 k17 k18;obtain ⟨m6, hm6⟩ : ∃ m, ([] ++ txtB mqtt ++ numB 1 4 ++ numB 1 cn ++ numB 2 kk ++ txtB p.client) = m := ⟨_, rfl⟩
 rw [hm6] at H7 L6
 have hm6 := hid hm6;go_loopw [48] (fun i wr => ∃ (j : Nat) (F1 : List Nat), i = .int .i64 j /\ j <= 4 /\ Hid (Wr wr F1 q (l ++ m6 ++ (xs.take j).flatMap itemB)) /\ Hid (Stp F6 F1 W7 wr)) (fun i _ => 4 - (intOf i).toNat)
 case atStart => exact ⟨0, F6, by go_num, Nat.zero_le _, hid (by simpa using H7.out.wr), hid (Stp.refl _ _)⟩
 case round =>
  obtain ⟨j, F1, rfl, hj, hWr, hS⟩ := hrel
  by_cases hjn : j < 4
  ·obtain ⟨x, hxj⟩ : ∃ x, xs[j]? = some x := ⟨_, List.getElem?_eq_getElem (by rw [HL.out]; exact hjn)⟩
   obtain ⟨b, off, ha, hbl, hrg⟩ := HV.out.at' j x hxj
   cases ha
   have hblk : wr.heap[g]? = W7.heap[g]? := hS.out.wrote.block g hbl hg6.out
   have hgood := hid (hx.out x (List.mem_of_getElem? hxj))
   have hsn : Hid ((xs.take (j + 1)).flatMap itemB = (xs.take j).flatMap itemB ++ itemB x) := hid (by
    rw [List.take_add_one, hxj, List.flatMap_append]
    simp)
   have hfit : Hid ((l ++ m6 ++ (xs.take j).flatMap itemB).length + (itemB x).length <= 65536) := hid (by
    have h1 := flat_take_le itemB xs (j + 1)
    rw [hsn.out, List.length_append, hil.out] at h1
    rw [List.length_append, L6.out]
    omega)
   have hcl : wr.rangeAt g (0 + j * 2) (itemV x) := fun i v hi => by
    have h1 := hrg i v hi
    unfold World.cell? at h1 ⊢
    rw [hblk]
    exact h1
   obtain ⟨bx, sx⟩ := x
   have hcl : wr.rangeAt g (j * 2) [.bool bx, .string ⟨sx.toArray⟩] := by rw [show j * 2 = 0 + j * 2 by omega]; exact hcl
   have hone : Hid (∀ v ∈ #[Value.bool bx, .string ⟨sx.toArray⟩].toList, v.oneCell' = true) := hid (by simp [Value.oneCell'])
   clear hrg hbl hblk hxj
   go_upto_region 9 with (first
    | (refine wLm 243 rfl rfl hcl Tryz.underlying243 ?_)
    | (refine wS 243 2 rfl _ _ #[.bool bx, .string ⟨sx.toArray⟩] rfl rfl (Blk.new _ _ _) rfl (by rfl) hone.out ?_; intro v3 hw3 hr3))
   have b3 : Below wr.heap.size wr v3 := ((Below.refl _ _).alloc (Nat.le_refl _) _).trans (hr3.below (by simp) (by simp))
   have V3 := hWr.out.below b3
   have S3 := hid (hS.out.trans (Stp.below (F := F1) b3))
   have k0 : v3.cell? ⟨wr.heap.size, 0, none⟩ = some (.bool bx) := hw3.cell 0
   have k1 : v3.cell? ⟨wr.heap.size, 1, none⟩ = some (.string ⟨sx.toArray⟩) := hw3.cell 1
   have W3 := hid V3;clear hr3 b3 hcl V3 hw3;try simp only [PT]
   cases bx with
   | true =>
    have C1 := hid (wT W3.out sx hgood.out (by have h9 := hfit.out; rw [show (itemB (true, sx)).length = 2 + sx.length from txtB_len sx] at h9; omega))
    go_wp2_with fail
    refine C1.out.mono ?_
    rintro e v4 ⟨F2, rfl, hw4, hs4⟩
    have HW1 : Hid (Wr v4 F2 q (l ++ m6 ++ (xs.take (j + 1)).flatMap itemB)) := hid (by rw [hsn.out, <- List.append_assoc]; exact hw4)
    have HS1 := hid (S3.out.trans hs4)
    clear hw4 hs4;go_wp2_with fail
    go_roundw
    case rel => exact ⟨j + 1, F2, by go_num, by omega, HW1, HS1⟩
    case measure => simp [intOf]; omega
   | false =>
    have HW1 : Hid (Wr v3 F1 q (l ++ m6 ++ (xs.take (j + 1)).flatMap itemB)) := hid (by rw [hsn.out, show itemB (false, sx) = [] from rfl, List.append_nil]; exact W3.out)
    go_wp2_with fail
    go_roundw
    case rel => exact ⟨j + 1, F1, by go_num, by omega, HW1, S3⟩
    case measure => simp [intOf]; omega
  ·obtain rfl : j = 4 := by omega
   rw [List.take_of_length_le (by rw [HL.out]; exact Nat.le_refl _)] at hWr
   have hhd : Hid (headC p = m6) := hid (by
    unfold headC
    rw [hcn.out, hktn.out, <- hm6.out]
    simp only [List.append_assoc, List.nil_append])
   have H := hid (show PutR F q l (headC p ++ (itemsC p).flatMap itemB) w (.returned (.tuple #[])) wr from ⟨F1, rfl, by rw [hhd.out, hxs.out, <- List.append_assoc]; exact hWr.out, H7.out.stp.trans hS.out⟩)
   clear hWr;go_wp2_with fail
   go_end0
   exact H.out
end
end Go.Proofs.YtkghejaimhoboaaGreatDoor
